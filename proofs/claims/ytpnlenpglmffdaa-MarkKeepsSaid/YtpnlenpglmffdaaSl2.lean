/-
  The judgement 'TK' and the rules of control: sequence, test, block, loop, exit, return; regions in the order of the text; calls by a contract 'Spec'.
-/
import Derived.Test.YtpnlenpglmffdaaSl1
import Derived.RangeFuncIn
set_option linter.unusedVariables false
namespace SL
open Go

theorem beq_ne {t d : Nat} (h : t ≠ d) : Nat.beq t d = false := by
  cases hb : Nat.beq t d
  · rfl
  · exact absurd (Nat.eq_of_beq_eq_true hb) h

abbrev Env := List (Nat × Value)
def look (t : Nat) : Env → Option Value
  | [] => none
  | (s, v) :: r => bif Nat.beq t s then some v else look t r

structure Agree (n : Nat) (ρ : Env) (a : Act) : Prop where
  defers : a.defers = []
  size : a.tmps.size = n
  at_ : ∀ t v, look t ρ = some v → a.tmps[t]? = some v

def ev (ρ : Env) : Operand → Option Value
  | .tmp t => look t ρ
  | .const v => some v
  | .global g => some (.pointer (some ⟨g, 0, none⟩))
  | .func f => some (.func (.func f) #[] #[])

theorem Agree.eval {n : Nat} {ρ : Env} {a : Act} (g : Agree n ρ a) {x : Operand} {v : Value} (h : ev ρ x = some v) : a.eval x = v := by
  cases x with
  | tmp t =>
    have := g.at_ t v h
    simp [Act.eval, Array.getD_eq_getD_getElem?, this]
  | const c => simpa [ev, Act.eval] using h
  | global b => simpa [ev, Act.eval] using h
  | func f => simpa [ev, Act.eval] using h

theorem Agree.put {n : Nat} {ρ : Env} {a : Act} (g : Agree n ρ a) {d : Nat} (hd : Nat.blt d n = true) (v : Value) : Agree n ((d, v) :: ρ) (a.put (some d) v) := by
  have hd' : d < n := by simpa using hd
  refine ⟨g.defers, by simpa [Act.put] using g.size, fun t u h => ?_⟩
  simp only [look] at h
  by_cases e : t = d
  · subst e
    simp at h
    subst h
    simp [Act.put, g.size, hd']
  · have : Nat.beq t d = false := beq_ne e
    rw [this] at h
    have := g.at_ t u (by simpa using h)
    simp only [Act.put]
    rw [Array.getElem?_setIfInBounds_ne (fun c => e c.symm)]
    exact this

theorem Agree.putNone {n : Nat} {ρ : Env} {a : Act} (g : Agree n ρ a) (v : Value) : Agree n ρ (a.put none v) := g

/-- what ρ' says, ρ says -/
def Sub (ρ ρ' : Env) : Prop := ∀ t v, look t ρ' = some v → look t ρ = some v
theorem Sub.nil {ρ : Env} : Sub ρ [] := fun t v h => by simp [look] at h
theorem Sub.cons {ρ ρ' : Env} {t : Nat} {v v' : Value} (h : look t ρ = some v') (e : v' = v) (s : Sub ρ ρ') : Sub ρ ((t, v) :: ρ') := by
  intro t' u hu
  simp only [look] at hu
  by_cases x : t' = t
  · subst x; subst e; simp at hu; subst hu; exact h
  · have : Nat.beq t' t = false := beq_ne x
    rw [this] at hu
    exact s _ _ (by simpa using hu)
theorem Sub.refl (ρ : Env) : Sub ρ ρ := fun _ _ h => h
theorem Agree.sub {n : Nat} {ρ ρ' : Env} {a : Act} (g : Agree n ρ a) (s : Sub ρ ρ') : Agree n ρ' a := ⟨g.defers, g.size, fun t v h => g.at_ t v (s t v h)⟩

abbrev Post := Value → List HProp → Prop

/-- in which way a frame runs: whose function's, in which loop's round (none: a whole call), with the marks of which loops over functions (the last one first) -/
structure Fm where
  fn : Nat
  round : Option Nat
  marks : List Nat
instance instFm {n : Nat} : OfNat Fm n := ⟨⟨n, none, []⟩⟩
def mkD (r : Nat) : Deferred := { target := .collected r, args := #[] }
def Fm.at (fm : Fm) (a : Act) (k : List Item) : Frame := { fn := fm.fn, tmps := a.tmps, todo := k, defers := fm.marks.map mkD, mode := .run, kind := .normal, roundOf := fm.round }
def Fm.frame (fm : Fm) : Frame := { (default : Frame) with fn := fm.fn, kind := .normal, roundOf := fm.round }
def Fm.act (fm : Fm) (a : Act) : Act := ⟨a.tmps, fm.marks.map mkD⟩
theorem Fm.at_eq (fm : Fm) (a : Act) (k : List Item) : fm.at a k = fm.frame.atR (fm.act a) k := rfl
theorem Fm.eval (fm : Fm) (a : Act) : (fm.act a).eval = a.eval := by
  funext x
  cases x <;> rfl

/-- the frame's end: a call leaves with v; a round hands v to whoever called it -/
def Ends (P : Program) (fm : Fm) (m : Machine) (cs : List Frame) (v : Value) (w' : World) : Prop := match fm.round with
  | none => ∃ fr, Steps P m (lone fr cs w') ∧ fr.fn = fm.fn ∧ fr.leaving P w' (.returned v)
  | some _ => ∀ c cs', cs = c :: cs' → Steps P m (lone (c.finish v) cs' w')
theorem Ends.of_steps {P : Program} {fm : Fm} {m m' : Machine} {cs : List Frame} {v : Value} {w' : World} (h : Steps P m m') (e : Ends P fm m' cs v w') : Ends P fm m cs v w' := by
  unfold Ends at *
  cases hr : fm.round with
  | none => simp only [hr] at e ⊢; obtain ⟨fr, a, b, c⟩ := e; exact ⟨fr, Steps.trans h a, b, c⟩
  | some l => simp only [hr] at e ⊢; exact fun c cs' hc => Steps.trans h (e c cs' hc)

def TK (P : Program) (fid : Fm) (n : Nat) (post : Post) (k : List Item) (ρ : Env) (L : List HProp) : Prop :=
  ∀ (w0 : World) (F : HProp) (a : Act) (w : World) (cs : List Frame), Agree n ρ a → Sat w0 L F w →
    ∃ v w' L', post v L' ∧ Sat w0 L' F w' ∧ Ends P fid (lone (fid.at a k) cs w) cs v w'

/-- a call of f with these arguments returns, and the post-condition takes what is left -/
structure Spec (P : Program) (f : Nat) (args : List Value) (pre : List HProp) (post : Post) : Prop where
  callable : ∀ (as : Array Value) (w : World), (callFunc f as).run P w = .ok (.enter f as) w
  runs : ∀ (w0 : World) (F : HProp) (w : World), Sat w0 pre F w →
    Calls P f args.toArray w fun e w' => ∃ v L', e = .returned v ∧ post v L' ∧ Sat w0 L' F w'

section
variable {P : Program} {fid : Fm} {n : Nat} {post : Post} {k : List Item} {ρ ρ' : Env} {L L' : List HProp}

theorem TK.weak (s : Sub ρ ρ') (e : Ent L L') (h : TK P fid n post k ρ' L') : TK P fid n post k ρ L :=
  fun w0 F a w cs g st => h w0 F a w cs (g.sub s) (st.map e)

theorem TK.ent (e : Ent L L') (h : TK P fid n post k ρ L') : TK P fid n post k ρ L := TK.weak (Sub.refl _) e h

theorem TK.env (s : Sub ρ ρ') (h : TK P fid n post k ρ' L) : TK P fid n post k ρ L := TK.weak s Ent.refl h

/-- assertions are opened: there is an x -/
theorem TK.openEx {α : Type} {L' : α → List HProp} (e : ∀ h, seps L h → ∃ x, seps (L' x) h) (h : ∀ x, TK P fid n post k ρ (L' x)) : TK P fid n post k ρ L := by
  intro w0 F a w cs g st
  obtain ⟨hp, hs, h1, h2, d, rfl, x, y⟩ := st.heap
  obtain ⟨z, hz⟩ := e h1 x
  exact h z w0 F a w cs g ⟨st.os, st.tape, st.out, _, hs, h1, h2, d, rfl, hz, y⟩

theorem TK.fact {φ : Prop} {r : List HProp} (hp : Pick L (SL.fact φ) r) (h : φ → TK P fid n post k ρ r) : TK P fid n post k ρ L := by
  intro w0 F a w cs g st
  have := st.pickFact hp
  exact h this.1 w0 F a w cs g this.2

theorem TK.step {k' : List Item} (hs : ∀ (b : Frame) (a' a : Act) (cs : List Frame) (w : World), Agree n ρ a → a'.eval = a.eval → step P (lone (b.atR a' k) cs w) = .next (lone (b.atR a' k') cs w))
    (h : TK P fid n post k' ρ L) : TK P fid n post k ρ L := by
  intro w0 F a w cs g st
  obtain ⟨v, w', L', hp, st', he⟩ := h w0 F a w cs g st
  exact ⟨v, w', L', hp, st', .of_steps (.one (hs fid.frame (fid.act a) a cs w g (fid.eval a))) he⟩

theorem TK.seq {x y : Code} (h : TK P fid n post (.code x :: .code y :: k) ρ L) : TK P fid n post (.code (.seq x y) :: k) ρ L := TK.step (fun _ _ _ _ _ _ _ => stepR_seq) h
theorem TK.skip (h : TK P fid n post k ρ L) : TK P fid n post (.code .skip :: k) ρ L := TK.step (fun _ _ _ _ _ _ _ => stepR_skip) h
theorem TK.label {l : Nat} (h : TK P fid n post k ρ L) : TK P fid n post (.code (.label l) :: k) ρ L := TK.step (fun _ _ _ _ _ _ _ => stepR_label) h
theorem TK.block {id : Nat} {c : Code} (h : TK P fid n post (.code c :: .inBlock id :: k) ρ L) : TK P fid n post (.code (.block id c) :: k) ρ L := TK.step (fun _ _ _ _ _ _ _ => stepR_block) h
theorem TK.inBlock {id : Nat} (h : TK P fid n post k ρ L) : TK P fid n post (.inBlock id :: k) ρ L := TK.step (fun _ _ _ _ _ _ _ => stepR_inBlock) h
theorem TK.inLoop {c : Code} (h : TK P fid n post (.code c :: .inLoop c :: k) ρ L) : TK P fid n post (.inLoop c :: k) ρ L := TK.step (fun _ _ _ _ _ _ _ => stepR_inLoop) h
theorem TK.scope {c : Code} (h : TK P fid n post (.code c :: .inScope c :: k) ρ L) : TK P fid n post (.code (.scope c) :: k) ρ L :=
  TK.step (fun b a' a cs w _ _ => step_lone_go (by simp [stepG, stepG.exec, Frame.atR])) h
theorem TK.inScope {c : Code} (h : TK P fid n post k ρ L) : TK P fid n post (.inScope c :: k) ρ L :=
  TK.step (fun b a' a cs w _ _ => step_lone_go (by simp [stepG, stepG.exec, Frame.atR])) h
theorem TK.exit {id : Nat} {k' : List Item} (he : exitTo id k = some k') (h : TK P fid n post k' ρ L) : TK P fid n post (.code (.exit id) :: k) ρ L :=
  TK.step (fun _ _ _ _ _ _ _ => stepR_exit he) h

theorem exitTo_here {id : Nat} {k : List Item} : exitTo id (.inBlock id :: k) = some k := by simp [exitTo]
theorem exitTo_code {id : Nat} {c : Code} {k k' : List Item} (h : exitTo id k = some k') : exitTo id (.code c :: k) = some k' := h
theorem exitTo_loop {id : Nat} {c : Code} {k k' : List Item} (h : exitTo id k = some k') : exitTo id (.inLoop c :: k) = some k' := h
theorem exitTo_scope {id : Nat} {c : Code} {k k' : List Item} (h : exitTo id k = some k') : exitTo id (.inScope c :: k) = some k' := h
theorem exitTo_block {id id' : Nat} {k k' : List Item} (hn : (id' == id) = false) (h : exitTo id k = some k') : exitTo id (.inBlock id' :: k) = some k' := by simp [exitTo, hn, h]

theorem TK.condT {c : Operand} {x y : Code} (hc : ev ρ c = some (.bool true)) (h : TK P fid n post (.code x :: k) ρ L) : TK P fid n post (.code (.cond c x y) :: k) ρ L :=
  TK.step (k' := .code x :: k) (fun b a' a cs w g e => stepR_cond (t := true) (by rw [e]; exact g.eval hc)) h
theorem TK.condF {c : Operand} {x y : Code} (hc : ev ρ c = some (.bool false)) (h : TK P fid n post (.code y :: k) ρ L) : TK P fid n post (.code (.cond c x y) :: k) ρ L :=
  TK.step (k' := .code y :: k) (fun b a' a cs w g e => stepR_cond (t := false) (by rw [e]; exact g.eval hc)) h
theorem TK.condP {c : Operand} {x y : Code} {p : Prop} [Decidable p] (hc : ev ρ c = some (.bool (decide p)))
    (ht : p → TK P fid n post (.code x :: k) ρ L) (hf : ¬ p → TK P fid n post (.code y :: k) ρ L) : TK P fid n post (.code (.cond c x y) :: k) ρ L := by
  by_cases h : p
  · exact TK.condT (by rw [hc, decide_eq_true h]) (ht h)
  · exact TK.condF (by rw [hc, decide_eq_false h]) (hf h)
theorem TK.condB {c : Operand} {x y : Code} {t : Bool} (hc : ev ρ c = some (.bool t))
    (ht : t = true → TK P fid n post (.code x :: k) ρ L) (hf : t = false → TK P fid n post (.code y :: k) ρ L) : TK P fid n post (.code (.cond c x y) :: k) ρ L := by
  cases t
  · exact TK.condF hc (hf rfl)
  · exact TK.condT hc (ht rfl)

/-- a loop: 'Inv ρ L m' says which states stand at a round's head, m the measure -/
theorem TK.loop {c : Code} (Inv : Env → List HProp → Nat → Prop)
    (round : ∀ ρ L m, Inv ρ L m → (∀ ρ' L' m', Inv ρ' L' m' → m' < m → TK P fid n post (.inLoop c :: k) ρ' L') → TK P fid n post (.code c :: .inLoop c :: k) ρ L)
    {ρ0 : Env} {L0 : List HProp} {m0 : Nat} (h0 : Inv ρ0 L0 m0) (hρ : Sub ρ ρ0) (hL : Ent L L0) : TK P fid n post (.code (.loop c) :: k) ρ L := by
  refine TK.weak hρ hL (TK.step (fun _ _ _ _ _ _ _ => stepR_loop) ?_)
  have key : ∀ m, ∀ m1, m1 < m → ∀ ρ L, Inv ρ L m1 → TK P fid n post (.code c :: .inLoop c :: k) ρ L := by
    intro m
    induction m with
    | zero => intro m1 h; omega
    | succ m ih =>
      intro m1 hm ρ L hi
      exact round ρ L m1 hi fun ρ' L' m' hi' hlt => TK.inLoop (ih m' (by omega) ρ' L' hi')
  exact key (m0 + 1) m0 (by omega) ρ0 L0 h0

theorem TK.again {c : Code} {Inv : Env → List HProp → Nat → Prop} {m : Nat}
    (ih : ∀ ρ' L' m', Inv ρ' L' m' → m' < m → TK P fid n post (.inLoop c :: k) ρ' L') {ρ1 : Env} {L1 : List HProp} {m1 : Nat}
    (h1 : Inv ρ1 L1 m1) (hρ : Sub ρ ρ1) (hL : Ent L L1) (hm : m1 < m) : TK P fid n post (.inLoop c :: k) ρ L :=
  TK.weak hρ hL (ih _ _ _ h1 hm)

/-! ### The end of a function -/
def Res (P : Program) (n : Nat) (ρ : Env) (L : List HProp) (fn : Func) (v : Value) : Prop :=
  ∀ (w0 : World) (F : HProp) (a : Act) (w : World), Agree n ρ a → Sat w0 L F w → (results fn a.tmps).run P w = .ok v w

/-- no round, and no mark is left -/
def Fm.plain (fm : Fm) : Prop := fm.round = none ∧ fm.marks = []
theorem TK.ret {fn : Func} {v : Value} (hf : P.funcs[fid.fn]? = some fn) (hr : Res P n ρ L fn v) (hp : post v L') (he : Ent L L') (hn : fid.plain := by exact ⟨rfl, rfl⟩) : TK P fid n post (.code .ret :: k) ρ L := by
  intro w0 F a w cs g st
  refine ⟨v, w, L', hp, st.map he, ?_⟩
  unfold Ends
  rw [hn.1]
  refine ⟨{ fid.at a (.code .ret :: k) with mode := .returning }, .one (stepR_ret (b := fid.frame) (a := fid.act a) hn.1), rfl, rfl, ?_, rfl, fn, hf, hr w0 F a w g st⟩
  show fid.marks.map mkD = []
  rw [hn.2]; rfl
theorem TK.fin {fn : Func} {v : Value} (hf : P.funcs[fid.fn]? = some fn) (hr : Res P n ρ L fn v) (hp : post v L') (he : Ent L L') (hn : fid.plain := by exact ⟨rfl, rfl⟩) : TK P fid n post [] ρ L := by
  intro w0 F a w cs g st
  refine ⟨v, w, L', hp, st.map he, ?_⟩
  unfold Ends
  rw [hn.1]
  refine ⟨{ fid.at a [] with mode := .returning }, .one (stepR_end (b := fid.frame) (a := fid.act a) hn.1), rfl, rfl, ?_, rfl, fn, hf, hr w0 F a w g st⟩
  show fid.marks.map mkD = []
  rw [hn.2]; rfl

theorem Res.none {fn : Func} (h : fn.results = #[]) : Res P n ρ L fn (.tuple #[]) :=
  fun _ _ a w _ _ => by simp [results, h]
theorem Res.one {fn : Func} {t : Nat} {v : Value} (h : fn.results = #[.tmp t]) (hv : look t ρ = some v) : Res P n ρ L fn v :=
  fun _ _ a w g _ => by have := g.at_ t v hv; simp [results, h, Array.getD_eq_getD_getElem?, this]
theorem Res.two {fn : Func} {t u : Nat} {v x : Value} (h : fn.results = #[.tmp t, .tmp u]) (hv : look t ρ = some v) (hx : look u ρ = some x) : Res P n ρ L fn (.tuple #[v, x]) :=
  fun _ _ a w g _ => by
    have e1 := g.at_ t v hv
    have e2 := g.at_ u x hx
    simp [results, h, Array.getD_eq_getD_getElem?, e1, e2]
theorem Res.three {fn : Func} {t u s : Nat} {v x y : Value} (h : fn.results = #[.tmp t, .tmp u, .tmp s]) (hv : look t ρ = some v) (hx : look u ρ = some x) (hy : look s ρ = some y) :
    Res P n ρ L fn (.tuple #[v, x, y]) :=
  fun _ _ a w g _ => by
    have e1 := g.at_ t v hv
    have e2 := g.at_ u x hx
    have e3 := g.at_ s y hy
    simp [results, h, Array.getD_eq_getD_getElem?, e1, e2, e3]

/-! ### A function's contract -/
def argsEnv : Nat → List Value → Env
  | _, [] => []
  | i, v :: r => (i, v) :: argsEnv (i + 1) r

theorem look_argsEnv (l : List Value) : ∀ (i t : Nat) (v : Value), look t (argsEnv i l) = some v → i ≤ t ∧ l[t - i]? = some v := by
  induction l with
  | nil => intro i t v h; simp [argsEnv, look] at h
  | cons x l ih =>
    intro i t v h
    simp only [argsEnv, look] at h
    by_cases e : t = i
    · subst e; simp at h; subst h; simp
    · have : Nat.beq t i = false := beq_ne e
      rw [this] at h
      obtain ⟨a, b⟩ := ih (i + 1) t v (by simpa using h)
      refine ⟨by omega, ?_⟩
      rw [show t - i = (t - (i + 1)) + 1 from by omega]
      simpa using b

theorem Spec.of_TK {f : Nat} {fn : Func} {c : Code} {args : List Value} {pre : List HProp} (hf : P.funcs[f]? = some fn) (hb : fn.body = some c) (hn : fn.ntmps = n)
    (hcall : ∀ (as : Array Value) (w : World), (callFunc f as).run P w = .ok (.enter f as) w) (hlen : Nat.ble args.length n = true)
    (h : TK P ⟨f, none, []⟩ n post [.code c] (argsEnv 0 args) pre) : Spec P f args pre post := by
  refine ⟨hcall, fun w0 F w st => ?_⟩
  intro cs
  have henter : Frame.enter P f args.toArray .normal =
      (⟨f, none, []⟩ : Fm).at { tmps := args.toArray ++ Array.replicate (fn.ntmps - args.toArray.size) undef, defers := [] } [.code c] := by
    simp [Frame.enter, Fm.at, hf, hb]
  have hlen' : args.length ≤ n := by simpa using hlen
  have g : Agree n (argsEnv 0 args) { tmps := args.toArray ++ Array.replicate (fn.ntmps - args.toArray.size) undef, defers := [] } := by
    refine ⟨rfl, by simp [hn]; omega, fun t v ht => ?_⟩
    obtain ⟨_, hv⟩ := look_argsEnv args 0 t v ht
    have hlt : t < args.length := by
      have := (List.getElem?_eq_some_iff.1 hv).1
      simpa using this
    show (args.toArray ++ _)[t]? = some v
    rw [Array.getElem?_append_left (by simpa using hlt)]
    simpa using hv
  obtain ⟨v, w', L', hp, st', hst⟩ := h w0 F _ w cs g st
  rw [← henter] at hst
  obtain ⟨fr, h0, h1, h2⟩ := hst
  exact ⟨.returned v, w', fr, ⟨v, L', rfl, hp, st'⟩, h0, h1, h2⟩

theorem Spec.mono {f : Nat} {args : List Value} {pre : List HProp} {post post' : Post} (h : Spec P f args pre post) (hp : ∀ v L, post v L → ∃ L', post' v L' ∧ Ent L L') :
    Spec P f args pre post' :=
  ⟨h.callable, fun w0 F w st => (h.runs w0 F w st).mono fun e w' ⟨v, L, he, hv, st'⟩ => let ⟨L', a, b⟩ := hp v L hv; ⟨v, L', he, a, st'.map b⟩⟩

theorem Spec.pre {f : Nat} {args : List Value} {pre pre' : List HProp} (h : Spec P f args pre post) (e : Ent pre' pre) : Spec P f args pre' post :=
  ⟨h.callable, fun w0 F w st => h.runs w0 F w (st.map e)⟩

/-! ### Regions -/
def nth {α : Type} : List α → Nat → Option α
  | [], _ => none
  | a :: _, 0 => some a
  | _ :: l, n + 1 => nth l n
theorem nth_eq {α : Type} (l : List α) : ∀ n, nth l n = l[n]? := by
  induction l with
  | nil => intro n; simp [nth]
  | cons a l ih => intro n; cases n <;> simp [nth, ih]

def binds (e : Edge) : Bool := match e.ground with
  | .textOnly _ => false
  | .gcOnly _ => false
  | _ => true
def nthB : List Bool → Nat → Bool
  | [], _ => false
  | a :: _, 0 => a
  | _ :: l, n + 1 => nthB l n
def edgesOk (ls : List Bool) : List Edge → Bool
  | [] => true
  | e :: r => bif binds e then (bif nthB ls e.on then edgesOk ls r else false) else edgesOk ls r
/-- which operations may come next, where those in ls are done -/
def enab (ls : List Bool) : List Oper → Nat → List Nat
  | [], _ => []
  | o :: r, i => bif nthB ls i then enab ls r (i + 1) else bif edgesOk ls o.after.toList then i :: enab ls r (i + 1) else enab ls r (i + 1)
def setB : List Bool → Nat → List Bool
  | [], _ => []
  | _ :: l, 0 => true :: l
  | a :: l, n + 1 => a :: setB l n
/-- the orders in which the rest of a region may go -/
def Val (ops : List Oper) : List Bool → List Nat → Prop
  | ls, [] => enab ls ops 0 = []
  | ls, i :: s => i ∈ enab ls ops 0 ∧ Val ops (setB ls i) s

/-- what is behind a region -/
def QK (P : Program) (fid : Fm) (post : Post) (k : List Item) (w0 : World) (F : HProp) : Act → World → Prop := fun a w =>
  ∀ (cs : List Frame), ∃ v w' L', post v L' ∧ Sat w0 L' F w' ∧ Ends P fid (lone (fid.at a k) cs w) cs v w'
/-- one round of the loop l ends, and hands its value to whoever called it -/
def Rnds (P : Program) (l f : Nat) (tmps : Array Value) (assign body : Code) (w : World) (R : Value → World → Prop) : Prop :=
  ∀ (c : Frame) (cs : List Frame), ∃ v w', R v w' ∧ Steps P (lone (Frame.round l f tmps assign body .normal) (c :: cs) w) (lone (c.finish v) cs w')
theorem Rnds.mono {P : Program} {l f : Nat} {tmps : Array Value} {assign body : Code} {w : World} {R R' : Value → World → Prop} (h : Rnds P l f tmps assign body w R) (hr : ∀ v w', R v w' → R' v w') : Rnds P l f tmps assign body w R' :=
  fun c cs => let ⟨v, w', r, s⟩ := h c cs; ⟨v, w', hr _ _ r, s⟩

/-- the operations that come behind all others (each has an edge to every one that does not) -/
def edgeTo (i : Nat) : List Edge → Bool
  | [] => false
  | e :: r => bif Nat.beq e.on i then (bif binds e then true else edgeTo i r) else edgeTo i r
/-- an edge to i, or one to an operation with an edge to i -/
def edge2 (ops : List Oper) (i : Nat) : List Edge → Bool
  | [] => false
  | e :: r => bif binds e then (bif Nat.beq e.on i then true else match nth ops e.on with
    | some o => bif edgeTo i o.after.toList then true else edge2 ops i r
    | none => edge2 ops i r) else edge2 ops i r
/-- the same, one more on the way -/
def edge3 (ops : List Oper) (i : Nat) : List Edge → Bool
  | [] => false
  | e :: r => bif binds e then (bif Nat.beq e.on i then true else match nth ops e.on with
    | some o => bif edge2 ops i o.after.toList then true else edge3 ops i r
    | none => edge3 ops i r) else edge3 ops i r
def edgeL (ops : List Oper) (i : Nat) (es : List Edge) : Bool := bif edge2 ops i es then true else edge3 ops i es
def allEdges (ops : List Oper) (es : List Edge) : Nat → Bool
  | 0 => true
  | n + 1 => bif edgeL ops n es then allEdges ops es n else false
/-- operation i comes behind all operations ahead of it, and nothing stands behind it -/
def isLate (ops : List Oper) (i : Nat) : Bool := match nth ops i with
  | some o => bif Nat.beq (i + 1) ops.length then allEdges ops o.after.toList i else false
  | none => false

def sfx (ops : List Oper) : Option (List Bool × List HProp) → List Nat → Prop
  | none, s => s = []
  | some p, s => Val ops p.1 s
def frF : Option (List Bool × List HProp) → HProp → HProp
  | none, F => F
  | some p, F => sep (seps p.2) F

/-- what an operation's end asks -/
def upS (P : Program) (o : Oper) (a : Act) (next : Act → World → Prop) : Result Next → Prop
  | .ok (.value v) w' => next (a.put o.dst v) w'
  | .ok .skip w' => next (a.put o.dst undef) w'
  | .ok (.enter f args) w' => Calls P f args w' fun e w'' => ∃ v, e = .returned v ∧ next (a.put o.dst v) w''
  | .ok (.row row args) w' => Rows P row args w' fun v w'' => next (a.put o.dst v) w''
  | .ok (.round l f tmps assign body) w' => Rnds P l f tmps assign body w' fun v w'' => next (a.put o.dst v) w''
  | _ => False
/-- the operations one after the other; behind each operation but the last one I holds -/
def wpI (P : Program) (ops : List Oper) (I : World → Prop) (Q : Act → World → Prop) : List Nat → Act → World → Prop
  | [], a, w => Q a w
  | i :: rest, a, w =>
    match ops[i]? with
    | none => wpI P ops I Q rest a w
    | some o => if Region.wanted o (yielded ops.toArray a.tmps) then upS P o a (fun a' w' => (isLate ops i = false → I w') ∧ wpI P ops I Q rest a' w') ((execOp a.eval o).run P w)
      else wpI P ops I Q rest (a.put o.dst undef) w

theorem upS_mono {P : Program} {o : Oper} {a : Act} {X Y : Act → World → Prop} (h : ∀ a w, X a w → Y a w) : ∀ {r : Result Next}, upS P o a X r → upS P o a Y r := by
  intro r hr
  unfold upS at hr ⊢
  split at hr
  · exact h _ _ hr
  · exact h _ _ hr
  · exact hr.mono fun e w' ⟨v, e1, e2⟩ => ⟨v, e1, h _ _ e2⟩
  · exact Rows.mono hr fun x w' hx => h _ _ hx
  · exact Rnds.mono hr fun x w' hx => h _ _ hx
  · exact hr.elim
theorem upS_sem {P : Program} {o : Oper} {a : Act} {w : World} {X : Act → World → Prop} (h : upS P o a X ((execOp a.eval o).run P w)) (ro : Option Nat) : o.semAt ro a.eval = execOp a.eval o := by
  refine Oper.semAt_eq ro a.eval o fun c hc => ?_
  have : ∃ s : Sem Deferred, execOp a.eval o = (do pure (.defer (← s))) := ⟨resolve a.eval c o.type, by simp only [execOp, hc]⟩
  obtain ⟨s, hs⟩ := this
  rw [hs, Sem.run_bind] at h
  cases hr : s.run P w with
  | ok d w' => simp [hr, upS] at h
  | halt e w' => simp [hr, upS] at h
theorem wpI_sound {P : Program} (fm : Fm) {ops : List Oper} {I : World → Prop} {Q : Act → World → Prop} : ∀ (s : List Nat) (a : Act) (w : World), wpI P ops I Q s a w → ∀ (k : List Item) (cs : List Frame),
    ∃ a' w', Q a' w' ∧ Steps P (lone (fm.at a (.inRegion ops.toArray s :: k)) cs w) (lone (fm.at a' k) cs w')
  | [], a, w, h, k, cs => ⟨a, w, h, .one (stepR_region_end (b := fm.frame) (a := fm.act a))⟩
  | i :: s, a, w, h, k, cs => by
    simp only [wpI] at h
    have hput : ∀ d v, (fm.act a).put d v = fm.act (a.put d v) := by intro d v; cases d <;> rfl
    cases ho : ops[i]? with
    | none =>
      have ho' : ops.toArray[i]? = none := by simpa using ho
      simp only [ho] at h
      obtain ⟨a', w', hq, hst⟩ := wpI_sound fm s a w h k cs
      have hs := stepR_op_skip (P := P) (b := fm.frame) (a := fm.act a) (k := k) (cs := cs) (w := w) (ops := ops.toArray) (i := i) (rest := s) (by simp [ho])
      simp only [ho', Option.bind_none, Act.put] at hs
      exact ⟨a', w', hq, Steps.trans (.one hs) hst⟩
    | some o =>
      have ho' : ops.toArray[i]? = some o := by simpa using ho
      simp only [ho] at h
      by_cases hw : Region.wanted o (yielded ops.toArray a.tmps) = true
      · rw [if_pos hw] at h
        have hsem := upS_sem h fm.round
        have hg := stepGR_op (P := P) (b := fm.frame) (a := fm.act a) (k := k) (cs := cs) (w := w) (rest := s) ho' hw
        rw [Fm.eval, show fm.frame.roundOf = fm.round from rfl, hsem] at hg
        have hfin : ∀ v, (fm.frame.atR (fm.act a) (.inRegion ops.toArray (i :: s) :: k)).finish v = fm.at (a.put o.dst v) (.inRegion ops.toArray s :: k) := by
          intro v; rw [Frame.finish_atR, ho', Option.bind_some, hput]; rfl
        unfold upS at h
        split at h
        · rename_i v w' hr
          obtain ⟨a', w2, hq, hst⟩ := wpI_sound fm s _ _ h.2 k cs
          refine ⟨a', w2, hq, Steps.trans (.one (step_lone_go ?_)) hst⟩
          rw [Fm.at_eq, hg, ← hfin]; simp [stepG.apply, hr]
        · rename_i w' hr
          obtain ⟨a', w2, hq, hst⟩ := wpI_sound fm s _ _ h.2 k cs
          refine ⟨a', w2, hq, Steps.trans (.one (step_lone_go ?_)) hst⟩
          rw [Fm.at_eq, hg, ← hfin]; simp [stepG.apply, hr]
        · rename_i f args w' hr
          obtain ⟨e, w2, fr, ⟨v, rfl, hR⟩, hsteps, _, hleave⟩ := h (fm.at a (.inRegion ops.toArray (i :: s) :: k) :: cs)
          have henter : step P (lone (fm.at a (.inRegion ops.toArray (i :: s) :: k)) cs w) =
              .next (lone (Frame.enter P f args .normal) (fm.at a (.inRegion ops.toArray (i :: s) :: k) :: cs) w') :=
            step_lone_go (by rw [Fm.at_eq, hg]; simp [stepG.apply, hr, Frame.atR])
          obtain ⟨a', w3, hq, hst⟩ := wpI_sound fm s _ _ hR.2 k cs
          refine ⟨a', w3, hq, .head henter (Steps.trans hsteps (.head ?_ hst))⟩
          rw [← hfin]; exact step_leave_returned hleave
        · rename_i row args w' hr
          obtain ⟨v, w2, hR, hsteps⟩ := h (fm.at a (.inRegion ops.toArray (i :: s) :: k)) cs
          have henter : step P (lone (fm.at a (.inRegion ops.toArray (i :: s) :: k)) cs w) =
              .next (lone (Frame.ofRow P row args .normal) (fm.at a (.inRegion ops.toArray (i :: s) :: k) :: cs) w') :=
            step_lone_go (by rw [Fm.at_eq, hg]; simp [stepG.apply, hr, Frame.atR])
          obtain ⟨a', w3, hq, hst⟩ := wpI_sound fm s _ _ hR.2 k cs
          refine ⟨a', w3, hq, .head henter (Steps.trans hsteps ?_)⟩
          rw [Fm.at_eq, hfin]; exact hst
        · rename_i l f tmps assign body w' hr
          obtain ⟨v, w2, hR, hsteps⟩ := h (fm.at a (.inRegion ops.toArray (i :: s) :: k)) cs
          have henter : step P (lone (fm.at a (.inRegion ops.toArray (i :: s) :: k)) cs w) =
              .next (lone (Frame.round l f tmps assign body .normal) (fm.at a (.inRegion ops.toArray (i :: s) :: k) :: cs) w') :=
            step_lone_go (by rw [Fm.at_eq, hg]; simp [stepG.apply, hr, Frame.atR])
          obtain ⟨a', w3, hq, hst⟩ := wpI_sound fm s _ _ hR.2 k cs
          refine ⟨a', w3, hq, .head henter (Steps.trans hsteps ?_)⟩
          rw [Fm.at_eq, hfin]; exact hst
        · exact h.elim
      · rw [if_neg hw] at h
        obtain ⟨a', w', hq, hst⟩ := wpI_sound fm s _ w h k cs
        have hs := stepR_op_skip (P := P) (b := fm.frame) (a := fm.act a) (k := k) (cs := cs) (w := w) (ops := ops.toArray) (i := i) (rest := s) (by simp [ho]; show Region.wanted o (yielded ops.toArray a.tmps) = false; simpa using hw)
        rw [ho', Option.bind_some, hput] at hs
        exact ⟨a', w', hq, Steps.trans (.one hs) hst⟩

theorem wpI_mono {P : Program} {ops : List Oper} {I J : World → Prop} {Q : Act → World → Prop} : ∀ (s : List Nat) (a : Act) (w : World), (∀ i ∈ s, isLate ops i = false → ∀ w, I w → J w) → wpI P ops I Q s a w → wpI P ops J Q s a w
  | [], a, w, _, h => h
  | i :: s, a, w, hij, h => by
    have ih := fun a w => wpI_mono (P := P) (Q := Q) s a w (fun x hx => hij x (by simp [hx]))
    simp only [wpI] at h ⊢
    cases ho : ops[i]? with
    | none => simp only [ho] at h ⊢; exact ih a w h
    | some o =>
      simp only [ho] at h ⊢
      split
      · rename_i hw
        rw [if_pos hw] at h
        exact upS_mono (fun a' w' x => ⟨fun hl => hij i (by simp) hl w' (x.1 hl), ih a' w' x.2⟩) h
      · rename_i hw
        rw [if_neg hw] at h
        exact ih _ w h

def IW (w0 : World) (F : HProp) (w : World) : Prop := ∃ L, Sat w0 L F w

/-- the operations l one after the other; behind them nothing (none), or what is left of a region that draws its order -/
def TO (P : Program) (fid : Fm) (n : Nat) (post : Post) (ops l : List Oper) (sf : Option (List Bool × List HProp)) (k : List Item) (ρ : Env) (L : List HProp) : Prop :=
  ∀ (w0 : World) (F : HProp) (a : Act) (w : World) (is s : List Nat), Agree n ρ a → Sat w0 L (frF sf F) w → is.map (fun i => ops[i]?) = l.map some → sfx ops sf s →
    wpI P ops (IW w0 (frF sf F)) (QK P fid post k w0 F) (is ++ s) a w

/-- a region that draws its order, where those in ls are done; the chunks of R are only read -/
def TD (P : Program) (fid : Fm) (n : Nat) (post : Post) (ops : List Oper) (ls : List Bool) (R : List HProp) (k : List Item) (ρ : Env) (L : List HProp) : Prop :=
  ∀ (w0 : World) (F : HProp) (a : Act) (w : World) (s : List Nat), Agree n ρ a → Sat w0 L (sep (seps R) F) w → Val ops ls s →
    wpI P ops (IW w0 (sep (seps R) F)) (QK P fid post k w0 F) s a w

theorem of_wpOps {ops : List Oper} {I : World → Prop} {s : List Nat} {w0 : World} {F : HProp} {a : Act} {w : World} (cs : List Frame)
    (h : wpI P ops I (QK P fid post k w0 F) s a w) :
    ∃ v w' L', post v L' ∧ Sat w0 L' F w' ∧ Ends P fid (lone (fid.at a (.inRegion ops.toArray s :: k)) cs w) cs v w' := by
  obtain ⟨a', w', hq, hst⟩ := wpI_sound fid s a w h k cs
  obtain ⟨v, w2, L', hp, st, he⟩ := hq cs
  exact ⟨v, w2, L', hp, st, he.of_steps hst⟩

theorem TK.region {id : Nat} {ops : List Oper} (h : TO P fid n post ops ops none k ρ L) : TK P fid n post (.code (.region id ops.toArray false) :: k) ρ L := by
  intro w0 F a w cs g st
  have h1 := h w0 F a w (List.range ops.length) [] g st (by
    apply List.ext_getElem?
    intro i
    simp only [List.getElem?_map]
    by_cases hi : i < ops.length
    · simp [hi]
    · simp [hi]) rfl
  rw [List.append_nil] at h1
  obtain ⟨v, w2, L', hp, st', hst⟩ := of_wpOps cs h1
  refine ⟨v, w2, L', hp, st', .of_steps (.one (stepR_region (b := fid.frame) (a := fid.act a))) ?_⟩
  simpa [Fm.at_eq] using hst

theorem TO.nil {ops : List Oper} (h : TK P fid n post k ρ L) : TO P fid n post ops [] none k ρ L := by
  intro w0 F a w is s g st hi hs
  have : is = [] := by simpa using hi
  subst this
  have hs' : s = [] := hs
  subst hs'
  exact fun cs => h w0 F a w cs g st

theorem TO.nilD {ops : List Oper} {ls : List Bool} {R : List HProp} (h : TD P fid n post ops ls R k ρ L) : TO P fid n post ops [] (some (ls, R)) k ρ L := by
  intro w0 F a w is s g st hi hs
  have : is = [] := by simpa using hi
  subst this
  exact h w0 F a w s g st hs

theorem TD.fin {ops : List Oper} {ls : List Bool} {R : List HProp} (he : enab ls ops 0 = []) (h : TK P fid n post k ρ (L ++ R)) : TD P fid n post ops ls R k ρ L := by
  intro w0 F a w s g st hs
  cases s with
  | nil => exact fun cs => h w0 F a w cs g st.unframe
  | cons i s => simp [Val, he] at hs

/-- a chunk is only read from now on -/
theorem TD.freeze {ops : List Oper} {ls : List Bool} {R r : List HProp} {c : HProp} (hp : Pick L c r) (h : TD P fid n post ops ls (c :: R) k ρ r) : TD P fid n post ops ls R k ρ L := by
  intro w0 F a w s g st hs
  have e1 : ∀ h', sep (seps R) F h' → True := fun _ _ => trivial
  have st' : Sat w0 r (sep (seps (c :: R)) F) w := by
    refine ⟨st.os, st.tape, st.out, ?_⟩
    obtain ⟨hh, hsub, hx⟩ := st.heap
    refine ⟨hh, hsub, ?_⟩
    have x1 : sep (sep c (seps r)) (sep (seps R) F) hh := sep_mono (fun _ y => (hp _).1 y) (fun _ y => y) hx
    have x2 : sep (sep (seps r) c) (sep (seps R) F) hh := sep_mono (fun _ y => sep_comm y) (fun _ y => y) x1
    have x3 := sep_assoc.1 x2
    exact sep_mono (fun _ y => y) (fun _ y => sep_assoc.2 y) x3
  have := h w0 F a w s g st' hs
  refine wpI_mono s a w (fun i _ _ w' hw => ?_) this
  obtain ⟨L1, s1⟩ := hw
  refine ⟨c :: L1, s1.os, s1.tape, s1.out, ?_⟩
  obtain ⟨hh, hsub, hx⟩ := s1.heap
  refine ⟨hh, hsub, ?_⟩
  have x1 : sep (seps L1) (sep c (sep (seps R) F)) hh := sep_mono (fun _ y => y) (fun _ y => sep_assoc.1 y) hx
  have x2 := sep_assoc.2 x1
  exact sep_mono (fun _ y => sep_comm y) (fun _ y => y) x2

/-- does the operation's guard let it run? -/
def wants (ops : List Oper) (ρ : Env) : Option (Nat × Bool) → Option Bool
  | none => some true
  | some (j, want) => match nth ops j with
    | some ⟨some d, _, _, _, _, _⟩ => match look d ρ with
      | some (.bool b) => some (bif want then b else !b)
      | some (.tuple _) => some false
      | _ => none
    | _ => none

theorem wanted_eq {ops : List Oper} {a : Act} {o : Oper} {b : Bool} (g : Agree n ρ a) (h : wants ops ρ o.guard = some b) :
    Region.wanted o (yielded ops.toArray a.tmps) = b := by
  unfold Region.wanted
  cases hg : o.guard with
  | none => simp [hg, wants] at h; simp [h]
  | some p =>
    obtain ⟨j, want⟩ := p
    simp only [hg, wants, nth_eq] at h
    cases ho : ops[j]? with
    | none => simp [ho] at h
    | some oj =>
      obtain ⟨dst, x1, x2, x3, x4, x5⟩ := oj
      cases dst with
      | none => simp [ho] at h
      | some d =>
        simp only [ho] at h
        cases hl : look d ρ with
        | none => simp [hl] at h
        | some v =>
          have hv := g.at_ d v hl
          simp only [hl] at h
          cases v <;> simp at h
          case bool b' => subst h; simp [yielded, ho, hv]; cases b' <;> cases want <;> rfl
          case tuple vs => subst h; simp [yielded, ho, hv]

def dstOk (n : Nat) : Option Nat → Bool
  | none => true
  | some d => Nat.blt d n
def putE (d : Option Nat) (v : Value) (ρ : Env) : Env := match d with
  | none => ρ
  | some d => (d, v) :: ρ

theorem Agree.putE {a : Act} (g : Agree n ρ a) {d : Option Nat} (hd : dstOk n d = true) (v : Value) : Agree n (putE d v ρ) (a.put d v) := by
  cases d with
  | none => exact g
  | some d => exact g.put hd v

variable {ops rest : List Oper} {o : Oper} {sf : Option (List Bool × List HProp)}

theorem TD.any {ls : List Bool} {R : List HProp} (h : ∀ i ∈ enab ls ops 0, ∃ o, nth ops i = some o ∧ TO P fid n post ops [o] (some (setB ls i, R)) k ρ L) (hne : enab ls ops 0 ≠ []) : TD P fid n post ops ls R k ρ L := by
  intro w0 F a w s g st hs
  cases s with
  | nil => exact absurd hs hne
  | cons i s =>
    obtain ⟨hi, hv⟩ := hs
    obtain ⟨o, ho, ht⟩ := h i hi
    exact ht w0 F a w [i] s g st (by rw [nth_eq] at ho; simp [ho]) hv
theorem TD.one {ls : List Bool} {R : List HProp} {i : Nat} (he : enab ls ops 0 = [i]) (ho : nth ops i = some o) (h : TO P fid n post ops [o] (some (setB ls i, R)) k ρ L) : TD P fid n post ops ls R k ρ L :=
  TD.any (by rw [he]; intro j hj; simp at hj; subst hj; exact ⟨o, ho, h⟩) (by rw [he]; simp)
theorem TD.two {ls : List Bool} {R : List HProp} {i j : Nat} {o' : Oper} (he : enab ls ops 0 = [i, j]) (ho : nth ops i = some o) (ho' : nth ops j = some o')
    (h : TO P fid n post ops [o] (some (setB ls i, R)) k ρ L) (h' : TO P fid n post ops [o'] (some (setB ls j, R)) k ρ L) : TD P fid n post ops ls R k ρ L :=
  TD.any (by
    rw [he]; intro x hx; simp at hx
    rcases hx with rfl | rfl
    · exact ⟨o, ho, h⟩
    · exact ⟨o', ho', h'⟩) (by rw [he]; simp)
theorem TD.three {ls : List Bool} {R : List HProp} {i j m : Nat} {o' o'' : Oper} (he : enab ls ops 0 = [i, j, m]) (ho : nth ops i = some o) (ho' : nth ops j = some o') (ho'' : nth ops m = some o'')
    (h : TO P fid n post ops [o] (some (setB ls i, R)) k ρ L) (h' : TO P fid n post ops [o'] (some (setB ls j, R)) k ρ L) (h'' : TO P fid n post ops [o''] (some (setB ls m, R)) k ρ L) : TD P fid n post ops ls R k ρ L :=
  TD.any (by
    rw [he]; intro x hx; simp at hx
    rcases hx with rfl | rfl | rfl
    · exact ⟨o, ho, h⟩
    · exact ⟨o', ho', h'⟩
    · exact ⟨o'', ho'', h''⟩) (by rw [he]; simp)
theorem TD.four {ls : List Bool} {R : List HProp} {i j m m' : Nat} {o' o'' o3 : Oper} (he : enab ls ops 0 = [i, j, m, m']) (ho : nth ops i = some o) (ho' : nth ops j = some o') (ho'' : nth ops m = some o'') (ho3 : nth ops m' = some o3)
    (h : TO P fid n post ops [o] (some (setB ls i, R)) k ρ L) (h' : TO P fid n post ops [o'] (some (setB ls j, R)) k ρ L) (h'' : TO P fid n post ops [o''] (some (setB ls m, R)) k ρ L)
    (h3 : TO P fid n post ops [o3] (some (setB ls m', R)) k ρ L) : TD P fid n post ops ls R k ρ L :=
  TD.any (by
    rw [he]; intro x hx; simp at hx
    rcases hx with rfl | rfl | rfl | rfl
    · exact ⟨o, ho, h⟩
    · exact ⟨o', ho', h'⟩
    · exact ⟨o'', ho'', h''⟩
    · exact ⟨o3, ho3, h3⟩) (by rw [he]; simp)

theorem idx_cons {is : List Nat} (hi : is.map (fun i => ops[i]?) = (o :: rest).map some) :
    ∃ i is', is = i :: is' ∧ ops[i]? = some o ∧ is'.map (fun i => ops[i]?) = rest.map some := by
  cases is with
  | nil => simp at hi
  | cons i is' =>
    simp only [List.map_cons, List.cons.injEq] at hi
    exact ⟨i, is', rfl, hi.1, hi.2⟩

theorem wpI_value {I : World → Prop} {Q : Act → World → Prop} {a : Act} {w w' : World} {i : Nat} {s : List Nat} {v : Value} (ho : ops[i]? = some o)
    (hw : Region.wanted o (yielded ops.toArray a.tmps) = true) (hr : (execOp a.eval o).run P w = .ok (.value v) w') (hI : I w')
    (h : wpI P ops I Q s (a.put o.dst v) w') : wpI P ops I Q (i :: s) a w := by
  simp only [wpI, ho, hw, if_true]
  simp only [upS, hr]
  exact ⟨fun _ => hI, h⟩

/-- an operation that yields a value -/
theorem TO.val (hw : wants ops ρ o.guard = some true) (hd : dstOk n o.dst = true)
    (h : ∀ (w0 : World) (F : HProp) (a : Act) (w : World), Agree n ρ a → Sat w0 L F w →
      ∃ v L' w', (execOp a.eval o).run P w = .ok (.value v) w' ∧ Sat w0 L' F w' ∧ TO P fid n post ops rest sf k (putE o.dst v ρ) L') :
    TO P fid n post ops (o :: rest) sf k ρ L := by
  intro w0 F a w is s g st hi hs
  obtain ⟨i, is', rfl, ho, hi'⟩ := idx_cons hi
  obtain ⟨v, L', w', hr, st', ht⟩ := h w0 (frF sf F) a w g st
  exact wpI_value ho (wanted_eq g hw) hr ⟨L', st'⟩ (ht w0 F _ w' is' s (g.putE hd v) st' hi' hs)

theorem TO.unit (hw : wants ops ρ o.guard = some true) (hd : o.dst = none)
    (h : ∀ (w0 : World) (F : HProp) (a : Act) (w : World), Agree n ρ a → Sat w0 L F w →
      ∃ L' w', (execOp a.eval o).run P w = .ok .skip w' ∧ Sat w0 L' F w' ∧ TO P fid n post ops rest sf k ρ L') :
    TO P fid n post ops (o :: rest) sf k ρ L := by
  intro w0 F a w is s g st hi hs
  obtain ⟨i, is', rfl, ho, hi'⟩ := idx_cons hi
  obtain ⟨L', w', hr, st', ht⟩ := h w0 (frF sf F) a w g st
  have h1 := ht w0 F a w' is' s g st' hi' hs
  simp only [List.cons_append, wpI, ho, wanted_eq g hw, if_true]
  simp only [upS, hr, hd]
  exact ⟨fun _ => ⟨L', st'⟩, h1⟩

/-- an operation that its guard does not let run -/
theorem TO.passAny (hw : wants ops ρ o.guard = some false) (hd : dstOk n o.dst = true) (h : TO P fid n post ops rest sf k (putE o.dst undef ρ) L) :
    TO P fid n post ops (o :: rest) sf k ρ L := by
  intro w0 F a w is s g st hi hs
  obtain ⟨i, is', rfl, ho, hi'⟩ := idx_cons hi
  have h1 := h w0 F _ w is' s (g.putE hd undef) st hi' hs
  simp only [List.cons_append, wpI, ho, wanted_eq g hw, Bool.false_eq_true, if_false]
  exact h1
theorem TO.pass {d : Nat} {op : Op} {ty : TypeId} {pos : String} {af : Array Edge} {gd : Option (Nat × Bool)} (hw : wants ops ρ gd = some false) (hd : Nat.blt d n = true)
    (h : TO P fid n post ops rest sf k ((d, undef) :: ρ) L) : TO P fid n post ops (⟨some d, op, ty, pos, af, gd⟩ :: rest) sf k ρ L := TO.passAny hw hd h
theorem TO.pass0 {op : Op} {ty : TypeId} {pos : String} {af : Array Edge} {gd : Option (Nat × Bool)} (hw : wants ops ρ gd = some false)
    (h : TO P fid n post ops rest sf k ρ L) : TO P fid n post ops (⟨none, op, ty, pos, af, gd⟩ :: rest) sf k ρ L := TO.passAny hw rfl h

theorem TO.weak {ρ' : Env} {L' : List HProp} {l : List Oper} (s : Sub ρ ρ') (e : Ent L L') (h : TO P fid n post ops l sf k ρ' L') : TO P fid n post ops l sf k ρ L :=
  fun w0 F a w is x g st hi hs => h w0 F a w is x (g.sub s) (st.map e) hi hs
theorem TO.ent {L' : List HProp} {l : List Oper} (e : Ent L L') (h : TO P fid n post ops l sf k ρ L') : TO P fid n post ops l sf k ρ L := TO.weak (Sub.refl _) e h
theorem TO.openEx {α : Type} {L' : α → List HProp} {l : List Oper} (e : ∀ h, seps L h → ∃ x, seps (L' x) h) (h : ∀ x, TO P fid n post ops l sf k ρ (L' x)) : TO P fid n post ops l sf k ρ L := by
  intro w0 F a w is s g st hi hs
  obtain ⟨hp, hsub, h1, h2, d, rfl, x, y⟩ := st.heap
  obtain ⟨z, hz⟩ := e h1 x
  exact h z w0 F a w is s g ⟨st.os, st.tape, st.out, _, hsub, h1, h2, d, rfl, hz, y⟩ hi hs
theorem TO.fact {φ : Prop} {r : List HProp} {l : List Oper} (hp : Pick L (SL.fact φ) r) (h : φ → TO P fid n post ops l sf k ρ r) : TO P fid n post ops l sf k ρ L := by
  intro w0 F a w is s g st hi hs
  have := st.pickFact hp
  exact h this.1 w0 F a w is s g this.2 hi hs

def guardSlot (ops : List Oper) : Option (Nat × Bool) → Option Nat
  | some (j, _) => match nth ops j with
    | some ⟨some d, _, _, _, _, _⟩ => some d
    | _ => none
  | none => none
/-- a guard that is not decided yet -/
theorem TO.guardP {p : Prop} [Decidable p] {d : Nat} (hgd : guardSlot ops o.guard = some d) (hl : look d ρ = some (.bool (decide p)))
    (ht : p → TO P fid n post ops (o :: rest) sf k ((d, .bool true) :: ρ) L) (hf : ¬ p → TO P fid n post ops (o :: rest) sf k ((d, .bool false) :: ρ) L) :
    TO P fid n post ops (o :: rest) sf k ρ L := by
  by_cases h : p
  · exact TO.weak (Sub.cons (by rw [hl, decide_eq_true h]) rfl (Sub.refl _)) Ent.refl (ht h)
  · exact TO.weak (Sub.cons (by rw [hl, decide_eq_false h]) rfl (Sub.refl _)) Ent.refl (hf h)
theorem TO.guardB {t : Bool} {d : Nat} (hgd : guardSlot ops o.guard = some d) (hl : look d ρ = some (.bool t))
    (ht : t = true → TO P fid n post ops (o :: rest) sf k ((d, .bool true) :: ρ) L) (hf : t = false → TO P fid n post ops (o :: rest) sf k ((d, .bool false) :: ρ) L) :
    TO P fid n post ops (o :: rest) sf k ρ L := by
  cases t
  · exact TO.weak (Sub.cons hl rfl (Sub.refl _)) Ent.refl (hf rfl)
  · exact TO.weak (Sub.cons hl rfl (Sub.refl _)) Ent.refl (ht rfl)

/-! ### Calls -/
def EvAll (ρ : Env) (xs : List Operand) (vs : List Value) : Prop := xs.map (ev ρ) = vs.map some
theorem EvAll.nil {ρ : Env} : EvAll ρ [] [] := rfl
theorem EvAll.cons {ρ : Env} {x : Operand} {v : Value} {xs : List Operand} {vs : List Value} (h : ev ρ x = some v) (t : EvAll ρ xs vs) : EvAll ρ (x :: xs) (v :: vs) := by
  unfold EvAll at *
  simp [h, t]

theorem EvAll.map {a : Act} (g : Agree n ρ a) : ∀ {xs : List Operand} {vs : List Value} (h : EvAll ρ xs vs), xs.map a.eval = vs
  | [], [], _ => rfl
  | [], _ :: _, h => by simp [EvAll] at h
  | _ :: _, [], h => by simp [EvAll] at h
  | x :: xs, v :: vs, h => by
    simp only [EvAll, List.map_cons, List.cons.injEq] at h
    simp only [List.map_cons, g.eval h.1, EvAll.map g h.2]

/-- a call of a function by its contract -/
theorem TO.callAny {f : Nat} {dst : Option Nat} {ce : Callee} {xs : List Operand} {tys : Array TypeId} {ty : TypeId} {pos : String} {af : Array Edge} {g : Option (Nat × Bool)}
    {args vs first cap : List Value} {fv : Operand} {pre rst : List HProp} {post' : Post}
    (hs : Spec P f args pre post') (hce : ce = .value fv) (hfv : ev ρ fv = some (.func (.func f) first.toArray cap.toArray))
    (hw : wants ops ρ g = some true) (hd : dstOk n dst = true)
    (he : EvAll ρ xs vs) (ha : args = first ++ vs ++ cap) (hfr : Frm L pre rst) (h : ∀ v L', post' v L' → TO P fid n post ops rest sf k (putE dst v ρ) (L' ++ rst)) :
    TO P fid n post ops (⟨dst, .call ⟨ce, xs.toArray, tys⟩, ty, pos, af, g⟩ :: rest) sf k ρ L := by
  intro w0 F a w is s gr st hi hsf
  obtain ⟨i, is', rfl, ho, hi'⟩ := idx_cons hi
  have hrun : (execOp a.eval (⟨dst, .call ⟨ce, xs.toArray, tys⟩, ty, pos, af, g⟩ : Oper)).run P w = .ok (.enter f args.toArray) w := by
    have e1 := gr.eval hfv
    have e2 := EvAll.map gr he
    subst hce
    subst ha
    simp only [execOp, resolve, Sem.run_bind, List.map_toArray, e1, e2, Deferred.ofValue, Sem.run_pure, Result.andThen_ok, invoke]
    rw [hs.callable]
    simp
  have hwt := wanted_eq (o := (⟨dst, .call ⟨ce, xs.toArray, tys⟩, ty, pos, af, g⟩ : Oper)) gr hw
  simp only [List.cons_append, wpI, ho, hwt, if_true]
  simp only [upS, hrun]
  refine (hs.runs w0 (sep (seps rst) (frF sf F)) w (st.frame hfr)).mono ?_
  rintro e w1 ⟨v, L1, rfl, hp1, st1⟩
  exact ⟨v, rfl, fun _ => ⟨_, st1.unframe⟩, h v L1 hp1 w0 F _ w1 is' s (gr.putE hd v) st1.unframe hi' hsf⟩

theorem TO.call {f : Nat} {d : Nat} {xs : List Operand} {tys : Array TypeId} {ty : TypeId} {pos : String} {af : Array Edge} {g : Option (Nat × Bool)}
    {vs : List Value} {pre rst : List HProp} {post' : Post}
    (hs : Spec P f vs pre post') (hw : wants ops ρ g = some true) (hd : Nat.blt d n = true)
    (he : EvAll ρ xs vs) (hfr : Frm L pre rst) (h : ∀ v L', post' v L' → TO P fid n post ops rest sf k ((d, v) :: ρ) (L' ++ rst)) :
    TO P fid n post ops (⟨some d, .call ⟨.value (.func f), xs.toArray, tys⟩, ty, pos, af, g⟩ :: rest) sf k ρ L :=
  TO.callAny (first := []) (cap := []) hs rfl rfl hw hd he (by simp) hfr h
theorem TO.call0 {f : Nat} {xs : List Operand} {tys : Array TypeId} {ty : TypeId} {pos : String} {af : Array Edge} {g : Option (Nat × Bool)}
    {vs : List Value} {pre rst : List HProp} {post' : Post}
    (hs : Spec P f vs pre post') (hw : wants ops ρ g = some true)
    (he : EvAll ρ xs vs) (hfr : Frm L pre rst) (h : ∀ v L', post' v L' → TO P fid n post ops rest sf k ρ (L' ++ rst)) :
    TO P fid n post ops (⟨none, .call ⟨.value (.func f), xs.toArray, tys⟩, ty, pos, af, g⟩ :: rest) sf k ρ L :=
  TO.callAny (first := []) (cap := []) hs rfl rfl hw rfl he (by simp) hfr h
/-- a call of a function value that the walk knows: 'vs' its own arguments, 'cap' what it captured -/
theorem TO.callVal {f : Nat} {d : Nat} {fv : Operand} {xs : List Operand} {tys : Array TypeId} {ty : TypeId} {pos : String} {af : Array Edge} {g : Option (Nat × Bool)}
    {args vs cap : List Value} {pre rst : List HProp} {post' : Post}
    (hs : Spec P f args pre post') (hfv : ev ρ fv = some (.func (.func f) #[] cap.toArray)) (hw : wants ops ρ g = some true) (hd : Nat.blt d n = true)
    (he : EvAll ρ xs vs) (ha : args = vs ++ cap) (hfr : Frm L pre rst) (h : ∀ v L', post' v L' → TO P fid n post ops rest sf k ((d, v) :: ρ) (L' ++ rst)) :
    TO P fid n post ops (⟨some d, .call ⟨.value fv, xs.toArray, tys⟩, ty, pos, af, g⟩ :: rest) sf k ρ L :=
  TO.callAny (first := []) (cap := cap) hs rfl hfv hw hd he (by simpa using ha) hfr h

end
end SL
