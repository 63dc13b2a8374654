/-
  Regions that draw their order: every order that the edges allow; an operation that only reckons may be taken first.
-/
import Derived.Test.YtpnlenpglmffdaaSl2
set_option linter.unusedVariables false
set_option linter.unusedSimpArgs false
namespace SL
open Go

theorem nthB_eq (l : List Bool) : ∀ i, nthB l i = l.getD i false := by
  induction l with
  | nil => intro i; simp [nthB]
  | cons a l ih => intro i; cases i <;> simp [nthB, ih]
theorem setB_eq (l : List Bool) : ∀ i, setB l i = l.set i true := by
  induction l with
  | nil => intro i; simp [setB]
  | cons a l ih => intro i; cases i <;> simp [setB, ih]
theorem nthB_setB (l : List Bool) (i j : Nat) (h : nthB l j = true) : nthB (setB l i) j = true := by
  rw [nthB_eq] at *
  rw [setB_eq]
  by_cases e : i = j
  · subst e
    by_cases hl : i < l.length
    · simp [hl]
    · simp [List.getD, List.getElem?_eq_none (Nat.le_of_not_lt hl)] at h
  · simpa [List.getD, List.getElem?_set_ne e] using h
theorem nthB_setB_ne (l : List Bool) {i j : Nat} (h : i ≠ j) : nthB (setB l i) j = nthB l j := by
  rw [nthB_eq, nthB_eq, setB_eq]
  simp [List.getD, List.getElem?_set_ne h]
theorem setB_comm (l : List Bool) (i j : Nat) : setB (setB l i) j = setB (setB l j) i := by
  simp only [setB_eq]
  by_cases e : i = j
  · subst e; rfl
  · rw [List.set_comm _ _ e]

theorem edgesOk_eq (ls : List Bool) (es : List Edge) : edgesOk ls es = es.all fun e => !binds e || nthB ls e.on := by
  induction es with
  | nil => rfl
  | cons e es ih => simp only [edgesOk, List.all_cons, ih]; cases binds e <;> cases nthB ls e.on <;> simp

def can (ls : List Bool) (ops : List Oper) (j : Nat) : Bool := !nthB ls j && ((ops[j]?).map fun o => edgesOk ls o.after.toList).getD false

theorem enab_eq (ls : List Bool) : ∀ (l : List Oper) (i : Nat), enab ls l i = (List.range' i l.length).filter fun j => !nthB ls j && ((l[j - i]?).map fun o => edgesOk ls o.after.toList).getD false
  | [], i => by simp [enab]
  | o :: l, i => by
    have ih := enab_eq ls l (i + 1)
    have e : ((List.range' (i + 1) l.length).filter fun j => !nthB ls j && (((o :: l)[j - i]?).map fun o => edgesOk ls o.after.toList).getD false) = enab ls l (i + 1) := by
      rw [ih]
      apply List.filter_congr
      intro j hj
      have hj' : i + 1 ≤ j := (List.mem_range'_1.1 hj).1
      rw [show j - i = (j - (i + 1)) + 1 from by omega]
      simp
    simp only [enab, List.length_cons, List.range'_succ, List.filter_cons, e, Nat.sub_self, List.getElem?_cons_zero, Option.map_some, Option.getD_some]
    cases nthB ls i <;> cases edgesOk ls o.after.toList <;> simp

theorem enab_can (ls : List Bool) (ops : List Oper) : enab ls ops 0 = (List.range ops.length).filter (can ls ops) := by
  rw [enab_eq, List.range_eq_range']
  rfl

theorem mem_enab {ls : List Bool} {ops : List Oper} {i : Nat} : i ∈ enab ls ops 0 ↔ i < ops.length ∧ can ls ops i = true := by
  rw [enab_can]
  simp

theorem can_mono {ls : List Bool} {ops : List Oper} {i j : Nat} (h : can ls ops i = true) (hne : j ≠ i) : can (setB ls j) ops i = true := by
  simp only [can, Bool.and_eq_true, Bool.not_eq_true'] at *
  refine ⟨by rw [nthB_setB_ne _ hne]; exact h.1, ?_⟩
  cases ho : ops[i]? with
  | none => simp [ho] at h
  | some o =>
    simp only [ho, Option.map_some, Option.getD_some, edgesOk_eq, List.all_eq_true, Bool.or_eq_true] at *
    intro e he
    exact (h.2 e he).imp id (nthB_setB _ _ _)

/-! ### The model's own schedule -/
theorem count_set {ls : List Bool} {i : Nat} (hi : i < ls.length) (h : nthB ls i = false) : (setB ls i).count false + 1 = ls.count false := by
  rw [setB_eq]
  rw [nthB_eq] at h
  have hv : ls[i] = false := by simpa [List.getD, hi] using h
  rw [List.count_set hi, hv]
  have : 0 < ls.count false := List.count_pos_iff.2 (by rw [← hv]; exact List.getElem_mem hi)
  simp
  omega

theorem go_val (ops : List Oper) : ∀ (fuel t : Nat) (listed : Array Bool) (acc : List Nat), listed.size = ops.length → listed.toList.count false = fuel →
    ∃ s, Region.linearise.go .any ops.toArray fuel t listed acc = acc.reverse ++ s ∧ Val ops listed.toList s := by
  intro fuel
  induction fuel with
  | zero =>
    intro t listed acc hs hc
    refine ⟨[], by simp [Region.linearise.go], ?_⟩
    show enab listed.toList ops 0 = []
    rw [enab_can, List.filter_eq_nil_iff]
    intro j hj
    have hj' : j < listed.toList.length := by simp at hj ⊢; omega
    have : listed.toList[j] ≠ false := fun e => (List.count_eq_zero.1 hc) (by rw [← e]; exact List.getElem_mem hj')
    have hj2 : j < listed.size := by simpa using hj'
    have : nthB listed.toList j = true := by rw [nthB_eq]; simp [List.getD, hj2] at this ⊢; exact this
    simp [can, this]
  | succ fuel ih =>
    intro t listed acc hs hc
    have hrs : ((List.range ops.toArray.size).filter fun i =>
        !listed.getD i true && ((ops.toArray[i]?).map (·.after.all fun e => !Region.binds .any e || listed.getD e.on false)).getD false) = enab listed.toList ops 0 := by
      rw [enab_can, List.size_toArray]
      apply List.filter_congr
      intro i hi
      have hi' : i < listed.size := by simp at hi; omega
      have hi2 : i < ops.length := by simpa using hi
      have e1 : listed.getD i true = nthB listed.toList i := by rw [nthB_eq]; simp [Array.getD, hi', List.getD]
      have e2 : ∀ e : Edge, (!Region.binds .any e || listed.getD e.on false) = (!binds e || nthB listed.toList e.on) := by
        intro e
        have b1 : Region.binds .any e = binds e := by unfold Region.binds binds; cases e.ground <;> rfl
        have b2 : listed.getD e.on false = nthB listed.toList e.on := by
          rw [nthB_eq]
          by_cases h : e.on < listed.size
          · simp [Array.getD, h, List.getD]
          · simp [Array.getD, h, List.getD]
        rw [b1, b2]
      simp only [can, e1]
      congr 1
      simp only [List.getElem?_toArray, List.getElem?_eq_getElem hi2, Option.map_some, Option.getD_some, edgesOk_eq]
      rw [← Array.all_toList]
      congr 1
      funext e
      exact e2 e
    unfold Region.linearise.go
    simp only [hrs]
    cases hx : (enab listed.toList ops 0)[t % (enab listed.toList ops 0).length]? with
    | none =>
      refine ⟨[], by simp, ?_⟩
      show enab listed.toList ops 0 = []
      cases he : enab listed.toList ops 0 with
      | nil => rfl
      | cons a l =>
        rw [he] at hx
        have : t % (a :: l).length < (a :: l).length := Nat.mod_lt _ (by simp)
        rw [List.getElem?_eq_getElem this] at hx
        cases hx
    | some i =>
      have hmem : i ∈ enab listed.toList ops 0 := List.mem_of_getElem? hx
      obtain ⟨hi, hcan⟩ := mem_enab.1 hmem
      have hn : nthB listed.toList i = false := by simp [can] at hcan; exact hcan.1
      have hset : (listed.setIfInBounds i true).toList = setB listed.toList i := by rw [setB_eq]; simp
      obtain ⟨s, hs1, hs2⟩ := ih (t / (enab listed.toList ops 0).length) (listed.setIfInBounds i true) (i :: acc) (by simpa using hs) (by
        have := count_set (ls := listed.toList) (i := i) (by simp; omega) hn
        rw [hset]; omega)
      refine ⟨i :: s, ?_, hmem, by rw [← hset]; exact hs2⟩
      simp only [hs1]
      simp

def falses : List Oper → List Bool
  | [] => []
  | _ :: l => false :: falses l
theorem falses_eq (l : List Oper) : falses l = List.replicate l.length false := by
  induction l with
  | nil => rfl
  | cons a l ih => simp [falses, ih, List.replicate_succ]

theorem schedule_val (ops : List Oper) (t : Nat) : Val ops (falses ops) (Region.schedule true ops.toArray t) := by
  obtain ⟨s, h1, h2⟩ := go_val ops ops.length t (Array.replicate ops.length false) [] (by simp) (by simp)
  have e : Region.schedule true ops.toArray t = s := by
    simp only [Region.schedule, Bool.true_or, if_true, Region.linearise, List.size_toArray]
    simpa using h1
  rw [e, falses_eq]
  simpa using h2

section
variable {P : Program} {fid : Fm} {n : Nat} {post : Post} {k : List Item} {ρ ρ' : Env} {L L' : List HProp} {ops : List Oper}

theorem TK.regionD {id : Nat} {ls : List Bool} (hm : P.follows .mixedOrders = true) (hl : falses ops = ls) (h : TD P fid n post ops ls [] k ρ L) :
    TK P fid n post (.code (.region id ops.toArray true) :: k) ρ L := by
  subst hl
  intro w0 F a w cs g st
  have st2 : Sat w0 L (sep (seps []) F) { w with drawn := w.drawn + 1 } := by
    refine ⟨st.os, st.tape, st.out, ?_⟩
    obtain ⟨hh, hsub, hx⟩ := st.heap
    exact ⟨hh, hsub, sep_mono (fun _ y => y) (fun _ y => sep_emp.2 y) hx⟩
  have h1 := h w0 F a { w with drawn := w.drawn + 1 } _ g st2 (schedule_val ops (w.tape w.drawn (.order fid.fn id)))
  obtain ⟨v, w2, L', hp, st', hst⟩ := of_wpOps cs h1
  refine ⟨v, w2, L', hp, st', .of_steps (.one (stepR_region_draw (b := fid.frame) (a := fid.act a))) ?_⟩
  rw [hm]
  exact hst

/-! ### An operation that only reckons, first -/
/-- under ρ the operation yields v, whatever the world -/
def PV (P : Program) (n : Nat) (ρ : Env) (o : Oper) (v : Value) : Prop := ∀ (a : Act) (w : World), Agree n ρ a → (execOp a.eval o).run P w = .ok (.value v) w

theorem TO.pv {rest : List Oper} {sf : Option (List Bool × List HProp)} {d : Nat} {op : Op} {ty : TypeId} {pos : String} {af : Array Edge} {g : Option (Nat × Bool)} {v : Value}
    (hw : wants ops ρ g = some true) (hd : Nat.blt d n = true) (hv : PV P n ρ ⟨some d, op, ty, pos, af, g⟩ v) (h : TO P fid n post ops rest sf k ((d, v) :: ρ) L) :
    TO P fid n post ops (⟨some d, op, ty, pos, af, g⟩ :: rest) sf k ρ L :=
  TO.val hw hd fun w0 F a w gr st => ⟨v, L, w, hv a w gr, st, h⟩
theorem TO.pv0 {rest : List Oper} {sf : Option (List Bool × List HProp)} {op : Op} {ty : TypeId} {pos : String} {af : Array Edge} {g : Option (Nat × Bool)} {v : Value}
    (hw : wants ops ρ g = some true) (hv : PV P n ρ ⟨none, op, ty, pos, af, g⟩ v) (h : TO P fid n post ops rest sf k ρ L) :
    TO P fid n post ops (⟨none, op, ty, pos, af, g⟩ :: rest) sf k ρ L :=
  TO.val (o := ⟨none, op, ty, pos, af, g⟩) hw rfl fun w0 F a w gr st => ⟨v, L, w, hv a w gr, st, h⟩

def tmpsOf : List Operand → List Nat
  | [] => []
  | .tmp t :: l => t :: tmpsOf l
  | _ :: l => tmpsOf l
def hasN (t : Nat) : List Nat → Bool
  | [] => false
  | s :: l => bif Nat.beq t s then true else hasN t l
def rd (ops : List Oper) (o : Oper) : List Nat := match guardSlot ops o.guard with
  | some d => d :: tmpsOf o.op.operands.toList
  | none => tmpsOf o.op.operands.toList
/-- oi (which writes d) and oj go in either order -/
def indep (ops : List Oper) (d : Nat) (oi oj : Oper) : Bool :=
  bif hasN d (rd ops oj) then false else match oj.dst with
    | none => true
    | some e => bif Nat.beq d e then false else !hasN e (rd ops oi)
def firstOk (all : List Oper) (ls : List Bool) (i d : Nat) (oi : Oper) : List Oper → Nat → Bool
  | [], _ => true
  | o :: r, j => bif nthB ls j then firstOk all ls i d oi r (j + 1) else bif Nat.beq j i then firstOk all ls i d oi r (j + 1) else
    bif edgeTo i o.after.toList then firstOk all ls i d oi r (j + 1) else bif indep all d oi o then firstOk all ls i d oi r (j + 1) else false

theorem hasN_iff {t : Nat} {l : List Nat} : hasN t l = true ↔ t ∈ l := by
  induction l with
  | nil => simp [hasN]
  | cons s l ih =>
    simp only [hasN]
    by_cases e : t = s
    · subst e; simp
    · rw [beq_ne e]; simp [ih, e]

theorem mem_tmpsOf {t : Nat} {l : List Operand} : t ∈ tmpsOf l ↔ .tmp t ∈ l := by
  induction l with
  | nil => simp [tmpsOf]
  | cons x l ih => cases x <;> simp [tmpsOf, ih]

theorem firstOk_spec {all : List Oper} {ls : List Bool} {i d : Nat} {oi : Oper} : ∀ (l : List Oper) (b : Nat), firstOk all ls i d oi l b = true →
    ∀ j o, l[j]? = some o → nthB ls (b + j) = true ∨ b + j = i ∨ edgeTo i o.after.toList = true ∨ indep all d oi o = true
  | [], b, _, j, o, hj => by simp at hj
  | x :: l, b, h, j, o, hj => by
    simp only [firstOk] at h
    cases j with
    | zero =>
      simp at hj
      subst hj
      simp only [Nat.add_zero]
      by_cases h1 : nthB ls b = true
      · exact .inl h1
      · by_cases h2 : b = i
        · exact .inr (.inl h2)
        · by_cases h3 : edgeTo i x.after.toList = true
          · exact .inr (.inr (.inl h3))
          · by_cases h4 : indep all d oi x = true
            · exact .inr (.inr (.inr h4))
            · simp [h1, beq_ne h2, h3, h4] at h
    | succ j =>
      have hrec : firstOk all ls i d oi l (b + 1) = true := by
        cases h1 : nthB ls b <;> cases h2 : Nat.beq b i <;> cases h3 : edgeTo i x.after.toList <;> cases h4 : indep all d oi x <;> simp_all
      have := firstOk_spec l (b + 1) hrec j o (by simpa using hj)
      rwa [show b + 1 + j = b + (j + 1) from by omega] at this

theorem edgeTo_spec {i : Nat} {es : List Edge} (h : edgeTo i es = true) : ∃ e ∈ es, e.on = i ∧ binds e = true := by
  induction es with
  | nil => simp [edgeTo] at h
  | cons e r ih =>
    simp only [edgeTo] at h
    by_cases h1 : e.on = i
    · by_cases h2 : binds e = true
      · exact ⟨e, by simp, h1, h2⟩
      · simp [h1, h2] at h
        obtain ⟨x, hx, hy⟩ := ih h
        exact ⟨x, by simp [hx], hy⟩
    · rw [beq_ne h1] at h
      simp at h
      obtain ⟨x, hx, hy⟩ := ih h
      exact ⟨x, by simp [hx], hy⟩

/-- whatever is done has all done that it hangs on -/
def Closed (ops : List Oper) (ls : List Bool) : Prop := ∀ j o, ops[j]? = some o → nthB ls j = true → edgesOk ls o.after.toList = true
def closedB (ls : List Bool) : List Oper → Nat → Bool
  | [], _ => true
  | o :: r, i => bif nthB ls i then (bif edgesOk ls o.after.toList then closedB ls r (i + 1) else false) else closedB ls r (i + 1)
theorem closedB_spec {ls : List Bool} : ∀ {l : List Oper} {b : Nat}, closedB ls l b = true → ∀ j o, l[j]? = some o → nthB ls (b + j) = true → edgesOk ls o.after.toList = true
  | [], b, _, j, o, hj, _ => by simp at hj
  | x :: l, b, h, j, o, hj, hn => by
    simp only [closedB] at h
    cases j with
    | zero =>
      simp at hj
      subst hj
      rw [Nat.add_zero] at hn
      rw [hn] at h
      cases he : edgesOk ls x.after.toList
      · simp [he] at h
      · rfl
    | succ j =>
      have hr : closedB ls l (b + 1) = true := by
        cases h1 : nthB ls b <;> cases h2 : edgesOk ls x.after.toList <;> simp_all
      exact closedB_spec hr j o (by simpa using hj) (by rwa [show b + 1 + j = b + (j + 1) from by omega])
theorem Closed.of {ls : List Bool} (h : closedB ls ops 0 = true) : Closed ops ls := fun j o hj hn => closedB_spec h j o hj (by rwa [Nat.zero_add])
theorem edgesOk_mono {ls : List Bool} {i : Nat} {es : List Edge} (h : edgesOk ls es = true) : edgesOk (setB ls i) es = true := by
  simp only [edgesOk_eq, List.all_eq_true, Bool.or_eq_true] at *
  exact fun e he => (h e he).imp id (nthB_setB _ _ _)
theorem Closed.set {ls : List Bool} {i : Nat} (h : Closed ops ls) (hc : can ls ops i = true) : Closed ops (setB ls i) := by
  intro j o hj hn
  by_cases e : j = i
  · subst e
    simp only [can, hj, Option.map_some, Option.getD_some, Bool.and_eq_true] at hc
    exact edgesOk_mono hc.2
  · rw [nthB_setB_ne _ (fun c => e c.symm)] at hn
    exact edgesOk_mono (h j o hj hn)

/-- what an order is, once i is taken out of it -/
theorem val_split {i : Nat} : ∀ (s : List Nat) (ls : List Bool), Val ops ls s → Closed ops ls → can ls ops i = true → i < ops.length →
    ∃ s1 s2, s = s1 ++ i :: s2 ∧ (∀ j ∈ s1, j ≠ i ∧ ∃ ls', can ls' ops j = true ∧ nthB ls' i = false ∧ Closed ops ls' ∧ (∀ x, nthB ls x = true → nthB ls' x = true)) ∧ Val ops (setB ls i) (s1 ++ s2)
  | [], ls, hv, hcl, hc, hi => by
    have : enab ls ops 0 = [] := hv
    have h2 : i ∈ enab ls ops 0 := mem_enab.2 ⟨hi, hc⟩
    rw [this] at h2; simp at h2
  | j :: s, ls, hv, hcl, hc, hi => by
    obtain ⟨hj, hv'⟩ := hv
    by_cases e : j = i
    · subst e
      exact ⟨[], s, rfl, by simp, hv'⟩
    · obtain ⟨s1, s2, he, hall, hv2⟩ := val_split s (setB ls j) hv' (hcl.set (mem_enab.1 hj).2) (can_mono hc e) hi
      have hjc := (mem_enab.1 hj)
      refine ⟨j :: s1, s2, by simp [he], ?_, ?_⟩
      · intro x hx
        rcases List.mem_cons.1 hx with rfl | hx
        · exact ⟨e, ls, hjc.2, by simp [can] at hc; exact hc.1, hcl, fun _ h => h⟩
        · obtain ⟨a, ls', b, c, c2, d⟩ := hall x hx
          exact ⟨a, ls', b, c, c2, fun y hy => d y (nthB_setB _ _ _ hy)⟩
      · show j ∈ enab (setB ls i) ops 0 ∧ Val ops (setB (setB ls i) j) (s1 ++ s2)
        refine ⟨mem_enab.2 ⟨hjc.1, can_mono hjc.2 (fun h => e h.symm)⟩, ?_⟩
        rw [setB_comm]
        exact hv2

theorem eval_put {a : Act} {d : Nat} {v : Value} {x : Operand} (h : x ≠ .tmp d) : (a.put (some d) v).eval x = a.eval x := by
  cases x with
  | tmp t =>
    have : d ≠ t := fun e => h (by rw [e])
    simp [Act.eval, Act.put, Array.getD_eq_getD_getElem?, Array.getElem?_setIfInBounds_ne this]
  | const c => rfl
  | global g => rfl
  | func f => rfl

theorem arr_map_congr {α β : Type} {f g : α → β} {xs : Array α} (h : ∀ x ∈ xs, f x = g x) : xs.map f = xs.map g := Array.map_congr_left h
theorem opt_map_congr {f g : Operand → Value} {o : Option Operand} (h : ∀ x, o = some x → f x = g x) : o.map f = o.map g := by
  cases o with
  | none => rfl
  | some x => simp [h x rfl]

/-- an operation runs by its operands alone -/
theorem execOp_congr {f g : Operand → Value} (o : Oper) (h : ∀ x ∈ o.op.operands.toList, f x = g x) : execOp f o = execOp g o := by
  obtain ⟨dst, op, ty, pos, af, gd⟩ := o
  have hcall : ∀ c : Call, (∀ x ∈ c.operands.toList, f x = g x) → resolve f c ty = resolve g c ty := by
    intro c hc
    obtain ⟨ce, xs, tys⟩ := c
    have hx : xs.map f = xs.map g := arr_map_congr fun x hx => hc x (by simp [Call.operands]; exact .inr hx)
    cases ce with
    | value y => have := hc y (by simp [Call.operands]); simp only [resolve, hx, this]
    | invoke y m => have := hc y (by simp [Call.operands]); simp only [resolve, hx, this]
    | builtin b => simp only [resolve, hx]
  cases op
  case call c => simp only [execOp, hcall c h]
  case go c => simp only [execOp, hcall c h]
  case defer c => simp only [execOp, hcall c h]
  case build t ps =>
    have : (ps.map fun (i, x) => (i, f x)) = ps.map fun (i, x) => (i, g x) := arr_map_congr fun p hp => by
      have := h p.2 (by simp only [Op.operands, List.mem_map, Array.mem_toList_iff]; exact ⟨p, hp, rfl⟩)
      simp [this]
    simp only [execOp, this]
  case buildSlice t len ps =>
    have : (ps.map fun (i, x) => (i, f x)) = ps.map fun (i, x) => (i, g x) := arr_map_congr fun p hp => by
      have := h p.2 (by simp only [Op.operands, List.mem_map, Array.mem_toList_iff]; exact ⟨p, hp, rfl⟩)
      simp [this]
    simp only [execOp, this]
  case makeFunc fn fi cap =>
    have h1 : fi.map f = fi.map g := arr_map_congr fun x hx => h x (by simp [Op.operands, hx])
    have h2 : cap.map f = cap.map g := arr_map_congr fun x hx => h x (by simp [Op.operands, hx])
    simp only [execOp, h1, h2]
  case makeMap t r => 
    have h1 : r.map f = r.map g := opt_map_congr fun x hx => h x (by subst hx; simp [Op.operands])
    simp only [execOp, h1]
  case slice t x lo hi mx =>
    have h0 : f x = g x := h x (by simp [Op.operands])
    have h1 : lo.map f = lo.map g := opt_map_congr fun x hx => h x (by subst hx; simp [Op.operands])
    have h2 : hi.map f = hi.map g := opt_map_congr fun x hx => h x (by subst hx; simp [Op.operands])
    have h3 : mx.map f = mx.map g := opt_map_congr fun x hx => h x (by subst hx; simp [Op.operands])
    simp only [execOp, h0, h1, h2, h3]
  case select cs bl =>
    have : ∀ s ∈ cs, f s.chan = g s.chan ∧ s.send.map f = s.send.map g := by
      intro s hs
      have hm : ∀ x ∈ (#[s.chan] ++ s.send.toArray), f x = g x := fun x hx => h x (by
        simp only [Op.operands, Array.mem_toList_iff, Array.mem_flatMap]
        exact ⟨s, hs, hx⟩)
      exact ⟨hm _ (by simp), opt_map_congr fun x hx => hm x (by simp [hx])⟩
    have e : (cs.mapM fun s => (do pure { chan := f s.chan, send := s.send.map f, zero := ← zeroValue s.elem : CommCase } : Sem CommCase)) =
        cs.mapM fun s => (do pure { chan := g s.chan, send := s.send.map g, zero := ← zeroValue s.elem : CommCase } : Sem CommCase) := by
      rw [Array.mapM_eq_mapM_toList, Array.mapM_eq_mapM_toList]
      congr 1
      have aux : ∀ l : List SelectCase, (∀ s ∈ l, f s.chan = g s.chan ∧ s.send.map f = s.send.map g) →
          (l.mapM fun s => (do pure { chan := f s.chan, send := s.send.map f, zero := ← zeroValue s.elem : CommCase } : Sem CommCase)) =
          l.mapM fun s => (do pure { chan := g s.chan, send := s.send.map g, zero := ← zeroValue s.elem : CommCase } : Sem CommCase) := by
        intro l
        induction l with
        | nil => intro _; rfl
        | cons s l ih =>
          intro hl
          have hs := hl s (by simp)
          simp only [List.mapM_cons, ih (fun x hx => hl x (by simp [hx])), hs.1, hs.2]
      exact aux _ fun s hs => this s (by simpa using hs)
    simp only [execOp, e]
  all_goals
    simp only [Op.operands] at h
    simp [execOp]
    try simp_all

theorem put_comm {a : Act} {d e : Nat} (h : d ≠ e) (v x : Value) : (a.put (some d) v).put (some e) x = (a.put (some e) x).put (some d) v := by
  simp only [Act.put]
  rw [Array.setIfInBounds_comm _ _ h]

theorem first_one {w0 : World} {F : HProp} {I : World → Prop} {i d : Nat} {oi : Oper} {v : Value} : 
    ∀ (s1 s2 : List Nat) (a : Act) (w : World),
      (∀ (a' : Act) (w : World) (s : List Nat), I w → (∀ t ∈ rd ops oi, a'.tmps[t]? = a.tmps[t]?) → wpI P ops I (QK P fid post k w0 F) s (a'.put (some d) v) w → wpI P ops I (QK P fid post k w0 F) (i :: s) a' w) →
      (∀ j ∈ s1, isLate ops j = false ∧ ∀ oj, ops[j]? = some oj → indep ops d oi oj = true) → I w →
      wpI P ops I (QK P fid post k w0 F) (s1 ++ s2) (a.put (some d) v) w → wpI P ops I (QK P fid post k w0 F) (s1 ++ i :: s2) a w
  | [], s2, a, w, hst, _, hI, h => hst a w s2 hI (fun _ _ => rfl) h
  | j :: s1, s2, a, w, hst, hind, hI, h => by
    have ih := fun (a2 : Act) (w : World) (hs : ∀ t ∈ rd ops oi, a2.tmps[t]? = a.tmps[t]?) hI h =>
      first_one (w0 := w0) (F := F) (v := v) s1 s2 a2 w (fun a' w s hI he hh => hst a' w s hI (fun t ht => (he t ht).trans (hs t ht)) hh) (fun x hx => hind x (by simp [hx])) hI h
    have hlate := (hind j (by simp)).1
    cases hoj : ops[j]? with
    | none =>
      simp only [List.cons_append, wpI, hoj] at h ⊢
      exact ih a w (fun _ _ => rfl) hI h
    | some oj =>
      have hin := (hind j (by simp)).2 oj hoj
      simp only [indep] at hin
      have hnr : d ∉ rd ops oj := by
        intro hm
        rw [hasN_iff.2 hm] at hin
        simp at hin
      have hnr' : hasN d (rd ops oj) = false := by
        cases hx : hasN d (rd ops oj) with
        | false => rfl
        | true => exact absurd (hasN_iff.1 hx) hnr
      rw [hnr'] at hin
      have hops : ∀ x ∈ oj.op.operands.toList, (a.put (some d) v).eval x = a.eval x := by
        intro x hx
        refine eval_put fun e => hnr ?_
        subst e
        have := mem_tmpsOf.2 hx
        unfold rd; split
        · simp [this]
        · exact this
      have hex : execOp (a.put (some d) v).eval oj = execOp a.eval oj := execOp_congr oj hops
      have hyj : Region.wanted oj (yielded ops.toArray (a.put (some d) v).tmps) = Region.wanted oj (yielded ops.toArray a.tmps) := by
        unfold Region.wanted
        cases hg : oj.guard with
        | none => rfl
        | some p =>
          obtain ⟨q, want⟩ := p
          simp only [yielded]
          cases hq : ops[q]? with
          | none => simp [hq]
          | some oq =>
            cases hdq : oq.dst with
            | none => simp [hq, hdq]
            | some dq =>
              have : d ≠ dq := by
                intro e
                apply hnr
                unfold rd
                have : guardSlot ops oj.guard = some dq := by
                  rw [hg]; simp only [guardSlot, nth_eq, hq]
                  obtain ⟨x1, x2, x3, x4, x5, x6⟩ := oq
                  simp at hdq; subst hdq; rfl
                rw [this]; simp [e]
              simp [hq, hdq, Act.put, Array.getElem?_setIfInBounds_ne this]
      -- what follows oj
      have hnext : ∀ (a2 : Act) (x : Value) (w' : World), a2.tmps = a.tmps → I w' → wpI P ops I (QK P fid post k w0 F) (s1 ++ s2) ((a2.put (some d) v).put oj.dst x) w' →
          wpI P ops I (QK P fid post k w0 F) (s1 ++ i :: s2) (a2.put oj.dst x) w' := by
        intro a2 x w' ha2 hI' hx
        cases hdj : oj.dst with
        | none =>
          rw [hdj] at hx
          exact ih a2 w' (fun t _ => by rw [ha2]) hI' hx
        | some e =>
          rw [hdj] at hx hin
          replace hin : (bif Nat.beq d e then false else !hasN e (rd ops oi)) = true := hin
          have hde : d ≠ e := by
            intro c; subst c; simp at hin
          rw [put_comm hde] at hx
          have hne : e ∉ rd ops oi := by
            intro hm
            rw [beq_ne hde, hasN_iff.2 hm] at hin
            simp at hin
          refine ih (a2.put (some e) x) w' (fun t ht => ?_) hI' hx
          have : e ≠ t := fun c => hne (by rw [c]; exact ht)
          simp only [Act.put]
          rw [Array.getElem?_setIfInBounds_ne this, ha2]
      simp only [List.cons_append, wpI, hoj, hyj] at h ⊢
      split
      · rename_i hwj
        rw [if_pos hwj] at h
        simp only [hex] at h ⊢
        unfold upS at h ⊢
        split at h
        · exact ⟨h.1, hnext a _ _ rfl (h.1 hlate) h.2⟩
        · exact ⟨h.1, hnext a _ _ rfl (h.1 hlate) h.2⟩
        · exact h.mono fun e w' ⟨x, e1, e2⟩ => ⟨x, e1, e2.1, hnext a _ _ rfl (e2.1 hlate) e2.2⟩
        · exact Rows.mono h fun x w' hx => ⟨hx.1, hnext a _ _ rfl (hx.1 hlate) hx.2⟩
        · exact Rnds.mono h fun x w' hx => ⟨hx.1, hnext a _ _ rfl (hx.1 hlate) hx.2⟩
        · exact h.elim
      · rename_i hwj
        rw [if_neg hwj] at h
        exact hnext a _ _ rfl hI h

theorem wanted_congr {oi : Oper} {a a' : Act} (h : ∀ t ∈ rd ops oi, a'.tmps[t]? = a.tmps[t]?) : Region.wanted oi (yielded ops.toArray a'.tmps) = Region.wanted oi (yielded ops.toArray a.tmps) := by
  unfold Region.wanted
  cases hg : oi.guard with
  | none => rfl
  | some p =>
    obtain ⟨q, want⟩ := p
    simp only [yielded]
    cases hq : ops[q]? with
    | none => simp [hq]
    | some oq =>
      cases hdq : oq.dst with
      | none => simp [hq, hdq]
      | some dq =>
        have hs : guardSlot ops oi.guard = some dq := by
          rw [hg]; simp only [guardSlot, nth_eq, hq]
          obtain ⟨x1, x2, x3, x4, x5, x6⟩ := oq
          simp at hdq; subst hdq; rfl
        have := h dq (by unfold rd; rw [hs]; simp)
        simp [hq, hdq, this]
theorem exec_congr {oi : Oper} {a a' : Act} (h : ∀ t ∈ rd ops oi, a'.tmps[t]? = a.tmps[t]?) : execOp a'.eval oi = execOp a.eval oi := by
  refine execOp_congr oi fun x hx => ?_
  cases x with
  | tmp t =>
    have := h t (by
      have := mem_tmpsOf.2 hx
      unfold rd; split
      · simp [this]
      · exact this)
    simp [Act.eval, Array.getD_eq_getD_getElem?, this]
  | const c => rfl
  | global g => rfl
  | func f => rfl

theorem allEdges_spec {es : List Edge} : ∀ {m : Nat}, allEdges ops es m = true → ∀ i, i < m → edgeL ops i es = true
  | 0, _, i, hi => by omega
  | m + 1, h, i, hi => by
    simp only [allEdges] at h
    cases he : edgeL ops m es
    · simp [he] at h
    · simp [he] at h
      rcases Nat.lt_or_ge i m with h1 | h1
      · exact allEdges_spec h i h1
      · have : i = m := by omega
        subst this; exact he
theorem late_spec {j : Nat} (h : isLate ops j = true) : j + 1 = ops.length ∧ ∃ o, ops[j]? = some o ∧ ∀ i, i < j → edgeL ops i o.after.toList = true := by
  unfold isLate at h
  rw [nth_eq] at h
  cases ho : ops[j]? with
  | none => simp [ho] at h
  | some o =>
    simp only [ho] at h
    by_cases hl : j + 1 = ops.length
    · rw [hl] at h
      simp at h
      exact ⟨hl, o, rfl, fun i hi => allEdges_spec h i hi⟩
    · rw [beq_ne hl] at h
      simp at h
/-- an operation that may come, where j has an edge to i, has i behind it -/
theorem can_edge {ls : List Bool} {j i : Nat} {oj : Oper} (hoj : ops[j]? = some oj) (hc : can ls ops j = true) (he : edgeTo i oj.after.toList = true) : nthB ls i = true := by
  obtain ⟨e, he, h2, h3⟩ := edgeTo_spec he
  simp only [can, hoj, Option.map_some, Option.getD_some, edgesOk_eq, Bool.and_eq_true, List.all_eq_true] at hc
  have := hc.2 e he
  rw [h3, h2] at this
  simpa using this

theorem edge2_ex {ls : List Bool} {i : Nat} (hcl : Closed ops ls) : ∀ {es : List Edge}, (∀ e ∈ es, (!binds e || nthB ls e.on) = true) → edge2 ops i es = true → nthB ls i = true := by
  intro es hall he
  induction es with
  | nil => simp [edge2] at he
  | cons e r ih =>
    have ih' := fun h => ih (fun x hx => hall x (by simp [hx])) h
    simp only [edge2] at he
    cases hb : binds e
    · simp [hb] at he; exact ih' he
    · have hon : nthB ls e.on = true := by
        have := hall e (by simp)
        rw [hb] at this
        simpa using this
      simp only [hb, cond_true] at he
      by_cases h1 : e.on = i
      · rw [← h1]; exact hon
      · rw [beq_ne h1] at he
        simp only [cond_false, nth_eq] at he
        cases ho : ops[e.on]? with
        | none => simp [ho] at he; exact ih' he
        | some o =>
          simp only [ho] at he
          cases h2 : edgeTo i o.after.toList
          · simp [h2] at he; exact ih' he
          · have hcl2 := hcl e.on o ho hon
            simp only [edgesOk_eq, List.all_eq_true] at hcl2
            obtain ⟨e', he', h3, h4⟩ := edgeTo_spec h2
            have := hcl2 e' he'
            rw [h4, h3] at this
            simpa using this
theorem edge3_ex {ls : List Bool} {i : Nat} (hcl : Closed ops ls) : ∀ {es : List Edge}, (∀ e ∈ es, (!binds e || nthB ls e.on) = true) → edge3 ops i es = true → nthB ls i = true := by
  intro es hall he
  induction es with
  | nil => simp [edge3] at he
  | cons e r ih =>
    have ih' := fun h => ih (fun x hx => hall x (by simp [hx])) h
    simp only [edge3] at he
    cases hb : binds e
    · simp [hb] at he; exact ih' he
    · have hon : nthB ls e.on = true := by
        have := hall e (by simp)
        rw [hb] at this
        simpa using this
      simp only [hb, cond_true] at he
      by_cases h1 : e.on = i
      · rw [← h1]; exact hon
      · rw [beq_ne h1] at he
        simp only [cond_false, nth_eq] at he
        cases ho : ops[e.on]? with
        | none => simp [ho] at he; exact ih' he
        | some o =>
          simp only [ho] at he
          cases h2 : edge2 ops i o.after.toList
          · simp [h2] at he; exact ih' he
          · have hcl2 := hcl e.on o ho hon
            simp only [edgesOk_eq, List.all_eq_true] at hcl2
            exact edge2_ex hcl hcl2 h2
theorem can_edge2 {ls : List Bool} {j i : Nat} {oj : Oper} (hcl : Closed ops ls) (hoj : ops[j]? = some oj) (hc : can ls ops j = true) (he : edgeL ops i oj.after.toList = true) : nthB ls i = true := by
  simp only [can, hoj, Option.map_some, Option.getD_some, edgesOk_eq, Bool.and_eq_true, List.all_eq_true] at hc
  unfold edgeL at he
  cases h2 : edge2 ops i oj.after.toList
  · rw [h2] at he
    exact edge3_ex hcl hc.2 he
  · exact edge2_ex hcl hc.2 h2

theorem TD.firstAny {ls ls' : List Bool} {R : List HProp} {i d : Nat} {op : Op} {ty : TypeId} {pos : String} {af : Array Edge} {g : Option (Nat × Bool)} {v : Value}
    (hi : i ∈ enab ls ops 0) (ho : nth ops i = some ⟨some d, op, ty, pos, af, g⟩) (hd : Nat.blt d n = true)
    (hok : firstOk ops ls i d ⟨some d, op, ty, pos, af, g⟩ ops 0 = true) (hcl : closedB ls ops 0 = true)
    (hv : ∀ (w0 : World) (F : HProp) (a : Act), Agree n ρ a → ∀ (a' : Act) (w : World) (s : List Nat), IW w0 (sep (seps R) F) w → (∀ t ∈ rd ops ⟨some d, op, ty, pos, af, g⟩, a'.tmps[t]? = a.tmps[t]?) →
      wpI P ops (IW w0 (sep (seps R) F)) (QK P fid post k w0 F) s (a'.put (some d) v) w → wpI P ops (IW w0 (sep (seps R) F)) (QK P fid post k w0 F) (i :: s) a' w) (hl : setB ls i = ls')
    (h : TD P fid n post ops ls' R k ((d, v) :: ρ) L) : TD P fid n post ops ls R k ρ L := by
  subst hl
  intro w0 F a w s gr st hs
  obtain ⟨hi1, hi2⟩ := mem_enab.1 hi
  obtain ⟨s1, s2, rfl, hall, hv2⟩ := val_split s ls hs (Closed.of hcl) hi2 hi1
  refine first_one (oi := ⟨some d, op, ty, pos, af, g⟩) (v := v) s1 s2 a w (hv w0 F a gr) ?_ ⟨L, st⟩ (h w0 F _ w _ (gr.put hd v) st hv2)
  intro j hj
  obtain ⟨hne, ls2, hc, hn, hcl2, hmono⟩ := hall j hj
  constructor
  · cases hlj : isLate ops j with
    | false => rfl
    | true =>
      obtain ⟨h1, o, h2, h3⟩ := late_spec hlj
      have := can_edge2 hcl2 h2 hc (h3 i (by omega))
      rw [hn] at this; cases this
  · intro oj hoj
    rcases firstOk_spec ops 0 hok j oj hoj with h1 | h1 | h1 | h1
    · rw [Nat.zero_add] at h1
      have := hmono j h1
      simp [can, this] at hc
    · exact absurd (by simpa using h1) hne
    · have := can_edge hoj hc h1
      rw [hn] at this; cases this
    · exact h1

/-- the first operation that may come next and is of a kind that only reckons, or whose guard does not let it run -/
def pureOp : Op → Bool
  | .move _ | .assign _ | .pick .. | .nilCheck _ | .binOp .. | .unOp .. | .makeFunc .. | .fieldAddr .. | .field .. | .indexAddr .. | .index .. | .extract .. | .build .. | .slice .. => true
  | .call ⟨.builtin b, _, _⟩ => match b with
    | .len | .cap | .min | .max => true
    | _ => false
  | _ => false
def firstPure (ls : List Bool) : List Oper → Nat → Option Nat
  | [], _ => none
  | o :: r, i => bif nthB ls i then firstPure ls r (i + 1) else bif edgesOk ls o.after.toList then (bif pureOp o.op then some i else firstPure ls r (i + 1)) else firstPure ls r (i + 1)
def firstSkip (all : List Oper) (ρ : Env) (ls : List Bool) : List Oper → Nat → Option Nat
  | [], _ => none
  | o :: r, i => bif nthB ls i then firstSkip all ρ ls r (i + 1) else bif edgesOk ls o.after.toList then (match o.guard with
    | none => firstSkip all ρ ls r (i + 1)
    | some g => match wants all ρ (some g) with
      | some false => some i
      | _ => firstSkip all ρ ls r (i + 1)) else firstSkip all ρ ls r (i + 1)
theorem firstPure_mem {ls : List Bool} : ∀ {l : List Oper} {b i : Nat}, firstPure ls l b = some i → i ∈ enab ls l b
  | [], b, i, h => by simp [firstPure] at h
  | o :: l, b, i, h => by
    simp only [firstPure] at h
    simp only [enab]
    cases h1 : nthB ls b <;> cases h2 : edgesOk ls o.after.toList <;> cases h3 : pureOp o.op <;> simp [h1, h2, h3] at h ⊢
    · exact firstPure_mem h
    · exact firstPure_mem h
    · exact .inr (firstPure_mem h)
    · exact .inl h.symm
    all_goals exact firstPure_mem h
theorem firstSkip_mem {all : List Oper} {ls : List Bool} : ∀ {l : List Oper} {b i : Nat}, firstSkip all ρ ls l b = some i → i ∈ enab ls l b
  | [], b, i, h => by simp [firstSkip] at h
  | o :: l, b, i, h => by
    simp only [firstSkip] at h
    simp only [enab]
    cases h1 : nthB ls b <;> cases h2 : edgesOk ls o.after.toList <;> simp [h1, h2] at h ⊢
    · exact firstSkip_mem h
    · split at h
      · exact .inr (firstSkip_mem h)
      · split at h
        · cases h; exact .inl rfl
        · exact .inr (firstSkip_mem h)
    all_goals exact firstSkip_mem h

theorem TD.pure {ls ls' : List Bool} {R : List HProp} {i d : Nat} {op : Op} {ty : TypeId} {pos : String} {af : Array Edge} {g : Option (Nat × Bool)} {v : Value}
    (hi : firstPure ls ops 0 = some i) (ho : nth ops i = some ⟨some d, op, ty, pos, af, g⟩) (hw : wants ops ρ g = some true) (hd : Nat.blt d n = true)
    (hok : firstOk ops ls i d ⟨some d, op, ty, pos, af, g⟩ ops 0 = true) (hcl : closedB ls ops 0 = true) (hv : PV P n ρ ⟨some d, op, ty, pos, af, g⟩ v) (hl : setB ls i = ls')
    (h : TD P fid n post ops ls' R k ((d, v) :: ρ) L) : TD P fid n post ops ls R k ρ L := by
  refine TD.firstAny (firstPure_mem hi) ho hd hok hcl ?_ hl h
  intro w0 F a gr a' w s hI he hh
  have ho' : ops[i]? = some (⟨some d, op, ty, pos, af, g⟩ : Oper) := by rw [nth_eq] at ho; exact ho
  have hwt : Region.wanted (⟨some d, op, ty, pos, af, g⟩ : Oper) (yielded ops.toArray a'.tmps) = true := by rw [wanted_congr he]; exact wanted_eq gr hw
  have hr : (execOp a'.eval (⟨some d, op, ty, pos, af, g⟩ : Oper)).run P w = .ok (.value v) w := by rw [exec_congr he]; exact hv a w gr
  exact wpI_value ho' hwt hr hI hh

/-- an operation that its guard does not let run, first -/
theorem TD.pass {ls ls' : List Bool} {R : List HProp} {i d : Nat} {op : Op} {ty : TypeId} {pos : String} {af : Array Edge} {g : Option (Nat × Bool)}
    (hi : firstSkip ops ρ ls ops 0 = some i) (ho : nth ops i = some ⟨some d, op, ty, pos, af, g⟩) (hw : wants ops ρ g = some false) (hd : Nat.blt d n = true)
    (hok : firstOk ops ls i d ⟨some d, op, ty, pos, af, g⟩ ops 0 = true) (hcl : closedB ls ops 0 = true) (hl : setB ls i = ls')
    (h : TD P fid n post ops ls' R k ((d, undef) :: ρ) L) : TD P fid n post ops ls R k ρ L := by
  refine TD.firstAny (firstSkip_mem hi) ho hd hok hcl ?_ hl h
  intro w0 F a gr a' w s hI he hh
  have ho' : ops[i]? = some (⟨some d, op, ty, pos, af, g⟩ : Oper) := by rw [nth_eq] at ho; exact ho
  have hwt : Region.wanted (⟨some d, op, ty, pos, af, g⟩ : Oper) (yielded ops.toArray a'.tmps) = false := by rw [wanted_congr he]; exact wanted_eq gr hw
  simp only [wpI, ho', hwt, Bool.false_eq_true, if_false]
  exact hh

/-- the first load that may come next -/
def isLoad : Op → Bool
  | .load .. => true
  | _ => false
def firstLoad (ls : List Bool) : List Oper → Nat → Option Nat
  | [], _ => none
  | o :: r, i => bif nthB ls i then firstLoad ls r (i + 1) else bif edgesOk ls o.after.toList then (bif isLoad o.op then some i else firstLoad ls r (i + 1)) else firstLoad ls r (i + 1)
theorem firstLoad_mem {ls : List Bool} : ∀ {l : List Oper} {b i : Nat}, firstLoad ls l b = some i → i ∈ enab ls l b
  | [], b, i, h => by simp [firstLoad] at h
  | o :: l, b, i, h => by
    simp only [firstLoad] at h
    simp only [enab]
    cases h1 : nthB ls b <;> cases h2 : edgesOk ls o.after.toList <;> cases h3 : isLoad o.op <;> simp [h1, h2, h3] at h ⊢
    · exact firstLoad_mem h
    · exact firstLoad_mem h
    · exact .inr (firstLoad_mem h)
    · exact .inl h.symm
    all_goals exact firstLoad_mem h

/-- a load of a chunk that is only read, first -/
theorem TD.load {ls ls' : List Bool} {R r : List HProp} {i d t : Nat} {x : Operand} {c : HProp} {ty : TypeId} {pos : String} {af : Array Edge} {g : Option (Nat × Bool)} {v : Value}
    (hi : firstLoad ls ops 0 = some i) (ho : nth ops i = some ⟨some d, .load t x, ty, pos, af, g⟩) (hw : wants ops ρ g = some true) (hd : Nat.blt d n = true)
    (hok : firstOk ops ls i d ⟨some d, .load t x, ty, pos, af, g⟩ ops 0 = true) (hcl : closedB ls ops 0 = true) (hp : Pick R c r)
    (hv : ∀ (w0 : World) (F : HProp) (a : Act) (w : World), Agree n ρ a → Sat w0 [c] F w → (execOp a.eval (⟨some d, .load t x, ty, pos, af, g⟩ : Oper)).run P w = .ok (.value v) w) (hl : setB ls i = ls')
    (h : TD P fid n post ops ls' R k ((d, v) :: ρ) L) : TD P fid n post ops ls R k ρ L := by
  refine TD.firstAny (firstLoad_mem hi) ho hd hok hcl ?_ hl h
  intro w0 F a gr a' w s hI he hh
  have ho' : ops[i]? = some (⟨some d, .load t x, ty, pos, af, g⟩ : Oper) := by rw [nth_eq] at ho; exact ho
  have hwt : Region.wanted (⟨some d, .load t x, ty, pos, af, g⟩ : Oper) (yielded ops.toArray a'.tmps) = true := by rw [wanted_congr he]; exact wanted_eq gr hw
  obtain ⟨L1, s1⟩ := hI
  have s2 : Sat w0 [c] (sep (seps r) (sep F (seps L1))) w := by
    refine ⟨s1.os, s1.tape, s1.out, ?_⟩
    obtain ⟨hp', hsub, hx⟩ := s1.heap
    refine ⟨hp', hsub, ?_⟩
    have x1 := sep_comm hx
    have x2 := sep_assoc.1 x1
    have x3 := sep_mono (fun _ y => (hp _).1 y) (fun _ y => y) x2
    have x4 := sep_assoc.1 x3
    exact sep_mono (fun _ y => sep_comm (sep_emp.2 y)) (fun _ y => y) x4
  have hr : (execOp a'.eval (⟨some d, .load t x, ty, pos, af, g⟩ : Oper)).run P w = .ok (.value v) w := by rw [exec_congr he]; exact hv w0 _ a w gr s2
  exact wpI_value ho' hwt hr ⟨L1, s1⟩ hh

/-- where the last operation alone is left nothing is only read any more -/
theorem TD.thaw {ls : List Bool} {R : List HProp} {i : Nat} (he : enab ls ops 0 = [i]) (hl : isLate ops i = true) (hcl : closedB ls ops 0 = true) (h : TD P fid n post ops ls [] k ρ (L ++ R)) : TD P fid n post ops ls R k ρ L := by
  intro w0 F a w s g st hs
  have st' : Sat w0 (L ++ R) (sep (seps []) F) w := by
    refine ⟨st.os, st.tape, st.out, ?_⟩
    obtain ⟨hh, hsub, hx⟩ := st.heap
    refine ⟨hh, hsub, ?_⟩
    have x1 := sep_assoc.2 hx
    exact sep_mono (fun _ y => seps_append.2 y) (fun _ y => sep_emp.2 y) x1
  have h1 := h w0 F a w s g st' hs
  refine wpI_mono s a w ?_ h1
  intro j hj hlj
  -- every operation that is left is the last one
  exfalso
  obtain ⟨h1, o, h2, h3⟩ := late_spec hl
  have hi : i ∈ enab ls ops 0 := by rw [he]; simp
  have hci := (mem_enab.1 hi).2
  have hbefore : ∀ x, x < i → nthB ls x = true := fun x hx => can_edge2 (Closed.of hcl) h2 hci (h3 x hx)
  have hall : ∀ (s : List Nat) (ls2 : List Bool), (∀ x, x < i → nthB ls2 x = true) → Val ops ls2 s → ∀ y ∈ s, y = i := by
    intro s
    induction s with
    | nil => intro ls2 _ _ y hy; simp at hy
    | cons z s ih =>
      intro ls2 hb hv y hy
      obtain ⟨hz, hv'⟩ := hv
      obtain ⟨hz1, hz2⟩ := mem_enab.1 hz
      rcases List.mem_cons.1 hy with rfl | hy
      · rcases Nat.lt_trichotomy y i with hlt | heq | hgt
        · simp [can, hb y hlt] at hz2
        · exact heq
        · omega
      · exact ih (setB ls2 z) (fun x hx => nthB_setB _ _ _ (hb x hx)) hv' y hy
  have := hall s ls hbefore hs j hj
  subst this
  rw [hl] at hlj
  cases hlj

theorem TD.env {ls : List Bool} {R : List HProp} (s : Sub ρ ρ') (h : TD P fid n post ops ls R k ρ' L) : TD P fid n post ops ls R k ρ L :=
  fun w0 F a w x g st hs => h w0 F a w x (g.sub s) st hs
theorem TD.guardP {ls : List Bool} {R : List HProp} {i d : Nat} {p : Prop} [Decidable p] {o : Oper} (hi : i ∈ enab ls ops 0) (ho : nth ops i = some o) (hgd : guardSlot ops o.guard = some d) (hl : look d ρ = some (.bool (decide p)))
    (ht : p → TD P fid n post ops ls R k ((d, .bool true) :: ρ) L) (hf : ¬ p → TD P fid n post ops ls R k ((d, .bool false) :: ρ) L) : TD P fid n post ops ls R k ρ L := by
  by_cases h : p
  · exact TD.env (Sub.cons (by rw [hl, decide_eq_true h]) rfl (Sub.refl _)) (ht h)
  · exact TD.env (Sub.cons (by rw [hl, decide_eq_false h]) rfl (Sub.refl _)) (hf h)
theorem TD.guardB {ls : List Bool} {R : List HProp} {i d : Nat} {t : Bool} {o : Oper} (hi : i ∈ enab ls ops 0) (ho : nth ops i = some o) (hgd : guardSlot ops o.guard = some d) (hl : look d ρ = some (.bool t))
    (ht : t = true → TD P fid n post ops ls R k ((d, .bool true) :: ρ) L) (hf : t = false → TD P fid n post ops ls R k ((d, .bool false) :: ρ) L) : TD P fid n post ops ls R k ρ L := by
  cases t
  · exact TD.env (Sub.cons hl rfl (Sub.refl _)) (hf rfl)
  · exact TD.env (Sub.cons hl rfl (Sub.refl _)) (ht rfl)

theorem mem0 {i : Nat} {es l : List Nat} (h : l = i :: es) : i ∈ l := by rw [h]; simp

/-! doors: the kind of an operation is looked at once -/
theorem PV.door {o : Oper} {v : Value} (h : PV P n ρ o v) : PV P n ρ o v := h
theorem isBin {v : Value} {dst : Option Nat} {b : BinOp} {t u : TypeId} {x y : Operand} {ty : TypeId} {pos : String} {af : Array Edge} {g : Option (Nat × Bool)}
    (h : PV P n ρ ⟨dst, .binOp b t x y u, ty, pos, af, g⟩ v) : PV P n ρ ⟨dst, .binOp b t x y u, ty, pos, af, g⟩ v := h
theorem isCall {v : Value} {dst : Option Nat} {c : Call} {ty : TypeId} {pos : String} {af : Array Edge} {g : Option (Nat × Bool)}
    (h : PV P n ρ ⟨dst, .call c, ty, pos, af, g⟩ v) : PV P n ρ ⟨dst, .call c, ty, pos, af, g⟩ v := h
theorem isSlice {v : Value} {dst : Option Nat} {t : TypeId} {x : Operand} {lo hi mx : Option Operand} {ty : TypeId} {pos : String} {af : Array Edge} {g : Option (Nat × Bool)}
    (h : PV P n ρ ⟨dst, .slice t x lo hi mx, ty, pos, af, g⟩ v) : PV P n ρ ⟨dst, .slice t x lo hi mx, ty, pos, af, g⟩ v := h
theorem TO.isCall {rest : List Oper} {sf : Option (List Bool × List HProp)} {dst : Option Nat} {c : Call} {ty : TypeId} {pos : String} {af : Array Edge} {g : Option (Nat × Bool)}
    (h : TO P fid n post ops (⟨dst, .call c, ty, pos, af, g⟩ :: rest) sf k ρ L) : TO P fid n post ops (⟨dst, .call c, ty, pos, af, g⟩ :: rest) sf k ρ L := h
theorem TO.isPure {o : Oper} {rest : List Oper} {sf : Option (List Bool × List HProp)} (hp : pureOp o.op = true) (h : TO P fid n post ops (o :: rest) sf k ρ L) : TO P fid n post ops (o :: rest) sf k ρ L := h
theorem TO.isLoud {o : Oper} {rest : List Oper} {sf : Option (List Bool × List HProp)} (hp : pureOp o.op = false) (h : TO P fid n post ops (o :: rest) sf k ρ L) : TO P fid n post ops (o :: rest) sf k ρ L := h
theorem TO.is {l : List Oper} {sf : Option (List Bool × List HProp)} (h : TO P fid n post ops l sf k ρ L) : TO P fid n post ops l sf k ρ L := h
theorem TO.door {o : Oper} {rest : List Oper} {sf : Option (List Bool × List HProp)} (h : TO P fid n post ops (o :: rest) sf k ρ L) : TO P fid n post ops (o :: rest) sf k ρ L := h
theorem TD.is {ls : List Bool} {R : List HProp} (h : TD P fid n post ops ls R k ρ L) : TD P fid n post ops ls R k ρ L := h
theorem TK.is (h : TK P fid n post k ρ L) : TK P fid n post k ρ L := h
end
end SL
