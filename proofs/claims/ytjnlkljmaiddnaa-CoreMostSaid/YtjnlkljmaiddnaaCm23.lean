/-
  Some nodes hear nothing; all that is sent to the others comes, in order: what stays so.
-/
import Derived.Test.YtjnlkljmaiddnaaCm19
set_option linter.unusedVariables false
set_option linter.unusedSimpArgs false
set_option maxRecDepth 10000
namespace SL
open Go Go.Proofs Go.RowKit
/-- the entries on their way to a node -/
def prTo (t : Nat) (bag : List (Nat × Mg)) : List Int := (bag.filter fun x => decide (x.2.kind = 4 ∧ x.1 = t)).map fun x => x.2.op
theorem prTo_app (t : Nat) (a b : List (Nat × Mg)) : prTo t (a ++ b) = prTo t a ++ prTo t b := by simp [prTo]
theorem prTo_yes {t : Nat} {x : Nat × Mg} {b : List (Nat × Mg)} (h : x.2.kind = 4 ∧ x.1 = t) : prTo t (x :: b) = x.2.op :: prTo t b := by simp [prTo, h]
theorem prTo_no {t : Nat} {x : Nat × Mg} {b : List (Nat × Mg)} (h : ¬ (x.2.kind = 4 ∧ x.1 = t)) : prTo t (x :: b) = prTo t b := by simp only [prTo, List.filter_cons]; rw [if_neg (by simpa using h)]
def opsFrom (a k : Nat) : List Int := (List.range k).map fun j => ((a + j : Nat) : Int)
theorem opsFrom_succ (a k : Nat) : opsFrom a (k + 1) = (a : Int) :: opsFrom (a + 1) k := by
  simp only [opsFrom, List.range_succ_eq_map, List.map_cons, List.map_map, Nat.add_zero]
  congr 1
  apply List.map_congr_left
  intro j _
  simp only [Function.comp]
  omega
theorem opsFrom_last (a k : Nat) : opsFrom a (k + 1) = opsFrom a k ++ [((a + k : Nat) : Int)] := by simp [opsFrom, List.range_succ]
/-- what is on its way, and how long it takes -/
def wt (bag : List (Nat × Mg)) : Nat := (bag.map fun x => if x.2.kind = 5 then 1 else 2).sum
theorem wt_app (a b : List (Nat × Mg)) : wt (a ++ b) = wt a + wt b := by simp [wt]
theorem wt_cons (x : Nat × Mg) (b : List (Nat × Mg)) : wt (x :: b) = (if x.2.kind = 5 then 1 else 2) + wt b := by simp [wt]
theorem wt_len (b : List (Nat × Mg)) : b.length ≤ wt b := by
  induction b with
  | nil => simp
  | cons x b ih =>
    rw [wt_cons, List.length_cons]
    split <;> omega
theorem wt_all (l : List (Nat × Mg)) : wt l ≤ 2 * l.length := by
  induction l with
  | nil => simp [wt]
  | cons x b ih =>
    rw [wt_cons, List.length_cons]
    split <;> omega
/-- sp: who hears -/
structure MInv (n p : Nat) (sp : Nat → Bool) (f : Nat → Cs) (bag : List (Nat × Mg)) : Prop where
  spp : sp p = true
  prep : ∀ t, t < n → ¬ t = p → sp t = true → prTo t bag = opsFrom ((f t).es.length + 1) ((f p).es.length - (f t).es.length)
  ok : ∀ b, b < n → ¬ b = p → sp b = true → nat_ (f p).has b = (f b).es.length ∨ ∃ x ∈ bag, x.2.kind = 5 ∧ x.2.from_ = (b : Int) ∧ x.2.op = (f b).es.length
  own : nat_ (f p).has p = (f p).es.length
  set : kth n (f p).has ≤ (f p).commit
  mute : ∀ t, t < n → sp t = false → (f t).es = []
section
variable {n v p : Nat} {sp : Nat → Bool} {f : Nat → Cs} {bag rest : List (Nat × Mg)} {t : Nat} {m : Mg}
theorem goesR_has (s : Cs) : (goesR s).has = s.has.set s.me s.op := rfl
theorem goesR_set (s : Cs) : kth s.n (goesR s).has ≤ (goesR s).commit := by
  show kth s.n (s.has.set s.me s.op) ≤ max s.commit (kth s.n (s.has.set s.me s.op))
  omega
theorem pr_goes (h : GInv n v p f bag) {s : Cs} (hme : s.me = p) (hn : s.n = n) (hb : s.base = 0) (h7 : s.has.length = 7) :
    nat_ (goesR s).has p = s.es.length ∧ (∀ b, ¬ b = p → nat_ (goesR s).has b = nat_ s.has b) ∧ kth n (goesR s).has ≤ (goesR s).commit := by
  have hp := h.pn
  have hn7 := h.n7
  have hop : s.op = s.es.length := op_len hb
  have a := goesR_set s
  rw [hn] at a
  refine ⟨?_, fun i hi => ?_, a⟩
  · rw [goesR_has, hme, hop, nat_set_of (by omega), if_pos rfl]
  · rw [goesR_has, hme, nat_set_of (by omega), if_neg hi]
theorem come_form (h : GInv n v p f ((t, m) :: rest)) (hpr : t < n → ¬ t = p → prTo t ((t, m) :: rest) = opsFrom ((f t).es.length + 1) ((f p).es.length - (f t).es.length)) :
    (m.kind = 4 ∧ t < n ∧ ¬ t = p ∧ m.op = ((f t).es.length + 1 : Nat) ∧ (f t).es.length < (f p).es.length ∧ m.commit ≤ (f p).commit ∧ comeR p f rest t m = (up f t (learnR (addE (f t) m.e) m.commit m.floor), rest ++ [(p, ⟨5, (f t).view, t, ((f t).es.length + 1 : Nat), 0, 0, (f t).commit / 8 * 8, e0⟩)])) ∨
    (m.kind = 6 ∧ t < n ∧ ¬ t = p ∧ m.commit ≤ (f p).commit ∧ comeR p f rest t m = (up f t (learnR (f t) m.commit m.floor), rest ++ [(p, ⟨5, (f t).view, t, (f t).es.length, 0, 0, (f t).commit / 8 * 8, e0⟩)])) ∨
    (m.kind = 5 ∧ t = p ∧ ∃ b : Nat, m.from_ = b ∧ b < n ∧ ¬ b = p ∧ m.op ≤ (f b).es.length ∧ m.done ≤ (f b).commit ∧ comeR p f rest t m = (up f p (goesR (okR (f p) b m.op m.done)), rest)) := by
  rcases h.msg (t, m) (by simp) with ⟨h1, h2, h3, h4, h5, h6, j, h7, h8, h9⟩ | ⟨h1, h2, h3, h4, h5, h6⟩ | ⟨h1, h2, h3, b, h4, h5, h6, h7, h8⟩
  · simp only at h1 h2 h3 h5 h8
    have hop : (f t).op = (f t).es.length := op_len (h.base t h2)
    have hpr := hpr h2 h3
    rw [prTo_yes (x := (t, m)) ⟨h1, rfl⟩] at hpr
    have hk : (f p).es.length - (f t).es.length = ((f p).es.length - (f t).es.length - 1) + 1 := by
      cases hz : (f p).es.length - (f t).es.length with
      | zero => rw [hz] at hpr; simp [opsFrom] at hpr
      | succ k => omega
    rw [hk, opsFrom_succ] at hpr
    have hmo : m.op = ((f t).es.length + 1 : Nat) := by simpa using (List.cons.inj hpr).1
    refine .inl ⟨h1, h2, h3, hmo, by omega, h5, ?_⟩
    unfold comeR
    rw [if_pos h1, if_neg (by rw [hop, hmo]; omega), if_pos (by rw [hop, hmo]; omega), hop]
  · simp only at h1 h2 h3 h5
    have hop : (f t).op = (f t).es.length := op_len (h.base t h2)
    refine .inr (.inl ⟨h1, h2, h3, h5, ?_⟩)
    unfold comeR
    rw [if_neg (by omega), if_pos h1, hop]
  · simp only at h1 h2 h4 h7 h8
    refine .inr (.inr ⟨h1, h2, b, h4, h5, h6, h7, h8, ?_⟩)
    unfold comeR
    rw [if_neg (by omega), if_neg (by omega), h2, h4]
    simp
theorem learnR_es (s : Cs) (c x : Int) : (learnR s c x).es = s.es := rfl
theorem addE_len (s : Cs) (e : En) : (addE s e).es.length = s.es.length + 1 := by simp [addE]
/-- what is sent to who does not hear is lost -/
theorem drop_m (h : GInv n v p f ((t, m) :: rest)) (hM : MInv n p sp f ((t, m) :: rest)) (hs : sp t = false) : GInv n v p f rest ∧ MInv n p sp f rest ∧ wt rest < wt ((t, m) :: rest) := by
  have hne : ∀ i, sp i = true → ¬ t = i := fun i hi e => by rw [e, hi] at hs; cases hs
  refine ⟨h.less fun x hx => List.mem_cons_of_mem _ hx, ⟨hM.spp, fun i hi hip hsi => ?_, fun b hb hbp hsb => ?_, hM.own, hM.set, hM.mute⟩, ?_⟩
  · have := hM.prep i hi hip hsi
    rw [prTo_no (x := (t, m)) (fun c => hne i hsi c.2)] at this
    exact this
  · rcases hM.ok b hb hbp hsb with a | ⟨x, hx, x5, xf, xo⟩
    · exact .inl a
    · rcases List.mem_cons.1 hx with rfl | hx
      · exfalso
        simp only at x5
        rcases h.msg (t, m) (by simp) with ⟨k, _⟩ | ⟨k, _⟩ | ⟨_, k, _⟩
        · simp only at k; omega
        · simp only at k; omega
        · simp only at k; exact hne p hM.spp k
      · exact .inr ⟨x, hx, x5, xf, xo⟩
  · rw [wt_cons]
    split <;> omega
theorem come_m (h : GInv n v p f ((t, m) :: rest)) (hM : MInv n p sp f ((t, m) :: rest)) (hs : sp t = true) : MInv n p sp (comeR p f rest t m).1 (comeR p f rest t m).2 ∧ wt (comeR p f rest t m).2 < wt ((t, m) :: rest) ∧ ((comeR p f rest t m).1 p).es.length = (f p).es.length := by
  have hp := h.pn
  have hn7 := h.n7
  have hl7 := h.has7
  rw [wt_cons]
  rcases come_form h (fun a b => hM.prep t a b hs) with ⟨k, h1, h2, h3, h4, h5, e⟩ | ⟨k, h1, h2, h5, e⟩ | ⟨k, rfl, b, h1, h2, h3, h4, h5, e⟩
  · rw [e]
    dsimp only
    obtain ⟨S, hS⟩ : ∃ S, S = learnR (addE (f t) m.e) m.commit m.floor := ⟨_, rfl⟩
    have hSl : S.es.length = (f t).es.length + 1 := by rw [hS, learnR_es, addE_len]
    rw [← hS]
    have hUp : up f t S p = f p := up_other (fun e => h2 e.symm)
    refine ⟨⟨hM.spp, fun i hi hip hsi => ?_, fun i hi hip hsi => ?_, by rw [hUp]; exact hM.own, by rw [hUp]; exact hM.set, fun i hi hsi => ?_⟩, ?_, by rw [hUp]⟩
    · rw [hUp, prTo_app]
      have hpr := hM.prep i hi hip hsi
      by_cases ei : i = t
      · subst ei
        rw [up_same, hSl]
        rw [prTo_yes (x := (i, m)) ⟨k, rfl⟩] at hpr
        have hk : (f p).es.length - (f i).es.length = ((f p).es.length - ((f i).es.length + 1)) + 1 := by omega
        rw [hk, opsFrom_succ] at hpr
        rw [(List.cons.inj hpr).2]
        simp [prTo]
      · rw [up_other ei]
        rw [prTo_no (by simp only; intro c; exact ei c.2.symm)] at hpr
        rw [hpr]
        simp [prTo]
    · rw [hUp]
      by_cases ei : i = t
      · subst ei
        rw [up_same, hSl]
        exact .inr ⟨_, List.mem_append_right _ (List.mem_singleton.2 rfl), rfl, rfl, rfl⟩
      · rw [up_other ei]
        rcases hM.ok i hi hip hsi with ho | ⟨x, hx, x5, xf, xo⟩
        · exact .inl ho
        · rcases List.mem_cons.1 hx with rfl | hx
          · simp only at x5; omega
          · exact .inr ⟨x, List.mem_append_left _ hx, x5, xf, xo⟩
    · rw [up_other (fun e => by rw [e, hs] at hsi; cases hsi)]
      exact hM.mute i hi hsi
    · rw [wt_app, if_neg (show ¬ m.kind = 5 by omega)]
      simp [wt]
      omega
  · rw [e]
    dsimp only
    obtain ⟨S, hS⟩ : ∃ S, S = learnR (f t) m.commit m.floor := ⟨_, rfl⟩
    have hSl : S.es = (f t).es := by rw [hS, learnR_es]
    rw [← hS]
    have hUp : up f t S p = f p := up_other (fun e => h2 e.symm)
    have hlen : ∀ i, (up f t S i).es = (f i).es := fun i => by
      by_cases ei : i = t
      · rw [ei, up_same, hSl]
      · rw [up_other ei]
    refine ⟨⟨hM.spp, fun i hi hip hsi => ?_, fun i hi hip hsi => ?_, by rw [hUp]; exact hM.own, by rw [hUp]; exact hM.set, fun i hi hsi => by rw [hlen]; exact hM.mute i hi hsi⟩, ?_, by rw [hUp]⟩
    · rw [hlen, hlen, prTo_app]
      have hpr := hM.prep i hi hip hsi
      rw [prTo_no (x := (t, m)) (fun c => by have h4 : m.kind = 4 := c.1; omega)] at hpr
      rw [hpr]
      simp [prTo]
    · rw [hUp, hlen]
      rcases hM.ok i hi hip hsi with ho | ⟨x, hx, x5, xf, xo⟩
      · exact .inl ho
      · rcases List.mem_cons.1 hx with rfl | hx
        · simp only at x5; omega
        · exact .inr ⟨x, List.mem_append_left _ hx, x5, xf, xo⟩
    · rw [wt_app, if_neg (show ¬ m.kind = 5 by omega)]
      simp [wt]
      omega
  · rw [e]
    dsimp only
    obtain ⟨g1, g2, g3⟩ := pr_goes h (s := okR (f t) b m.op m.done) (h.me t hp) (h.nn t hp) (h.base t hp) (by simp [okR, hl7])
    have hhas : ∀ i, ¬ i = t → nat_ (goesR (okR (f t) b m.op m.done)).has i = if i = b then max (nat_ (f t).has b) m.op else nat_ (f t).has i := fun i hi => by
      rw [g2 i hi]
      show nat_ ((f t).has.set b (max (nat_ (f t).has b) m.op)) i = _
      rw [nat_set_of (by omega)]
    obtain ⟨S, hS⟩ : ∃ S, S = goesR (okR (f t) b m.op m.done) := ⟨_, rfl⟩
    have hSe : S.es = (f t).es := by rw [hS]; rfl
    rw [← hS] at g1 g3 hhas ⊢
    have hU : up f t S t = S := up_same f t S
    have hUo : ∀ i, ¬ i = t → up f t S i = f i := fun i hi => up_other hi
    have e1 : (okR (f t) b m.op m.done).es = (f t).es := rfl
    rw [e1] at g1
    refine ⟨⟨hM.spp, fun i hi hip hsi => ?_, fun i hi hip hsi => ?_, by rw [hU, hSe]; exact g1, by rw [hU]; exact g3, fun i hi hsi => ?_⟩, ?_, by rw [hU, hSe]⟩
    · rw [hU, hSe, hUo i hip]
      have hpr := hM.prep i hi hip hsi
      rw [prTo_no (x := (t, m)) (fun c => by have h4 : m.kind = 4 := c.1; omega)] at hpr
      exact hpr
    · rw [hU, hUo i hip, hhas i hip]
      have hle := h.has i hi
      by_cases ei : i = b
      · subst ei
        rw [if_pos rfl]
        rcases hM.ok i hi hip hsi with ho | ⟨x, hx, x5, xf, xo⟩
        · left; omega
        · rcases List.mem_cons.1 hx with rfl | hx
          · left; simp only at xo; omega
          · exact .inr ⟨x, hx, x5, xf, xo⟩
      · rw [if_neg ei]
        rcases hM.ok i hi hip hsi with ho | ⟨x, hx, x5, xf, xo⟩
        · exact .inl ho
        · rcases List.mem_cons.1 hx with rfl | hx
          · simp only at xf; omega
          · exact .inr ⟨x, hx, x5, xf, xo⟩
    · rw [hUo i (fun e => by rw [e, hs] at hsi; cases hsi)]
      exact hM.mute i hi hsi
    · rw [if_pos k]
      omega
theorem filter_one (n t fr : Nat) (ht : t < n) (htp : ¬ t = fr) (m : Mg) (h4 : m.kind = 4) : prTo t (toAll n fr m) = [m.op] := by
  induction n with
  | zero => omega
  | succ n ih =>
    by_cases e : n = fr
    · rw [toAll_succ_eq e]
      exact ih (by omega)
    · rw [toAll_succ_ne e, prTo_app]
      by_cases et : n = t
      · subst et
        have hno : prTo n (toAll n fr m) = [] := by
          unfold prTo
          rw [List.filter_eq_nil_iff.2]
          · rfl
          · intro x hx
            have := (mem_toAll hx).1
            simp
            intro _
            omega
        rw [hno]
        simp [prTo, h4]
      · rw [ih (by omega)]
        simp [prTo, et]
theorem prop_m (h : GInv n v p f bag) (hM : MInv n p sp f bag) (hl : (f p).es.length < 64) (e : En) : MInv n p sp (propR n p f bag e).1 (propR n p f bag e).2 ∧ ((propR n p f bag e).1 p).es.length = (f p).es.length + 1 ∧ wt (propR n p f bag e).2 ≤ wt bag + 14 := by
  have hp := h.pn
  have hn7 := h.n7
  have hl7 := h.has7
  unfold propR
  rw [if_pos hl]
  have hop : (f p).op = (f p).es.length := op_len (h.base p hp)
  obtain ⟨g1, g2, g3⟩ := pr_goes h (s := addE (f p) e) (h.me p hp) (h.nn p hp) (h.base p hp) hl7
  have e1 : (addE (f p) e).es.length = (f p).es.length + 1 := addE_len _ _
  rw [e1] at g1
  have hhas : ∀ i, ¬ i = p → nat_ (goesR (addE (f p) e)).has i = nat_ (f p).has i := fun i hi => g2 i hi
  obtain ⟨S, hS⟩ : ∃ S, S = goesR (addE (f p) e) := ⟨_, rfl⟩
  have hSe : S.es.length = (f p).es.length + 1 := by rw [hS]; exact e1
  rw [← hS] at g1 g3 hhas ⊢
  dsimp only
  have hU : up f p S p = S := up_same f p S
  have hUo : ∀ i, ¬ i = p → up f p S i = f i := fun i hi => up_other hi
  refine ⟨⟨hM.spp, fun i hi hip hsi => ?_, fun i hi hip hsi => ?_, by rw [hU, hSe]; exact g1, by rw [hU]; exact g3, fun i hi hsi => ?_⟩, by rw [hU, hSe], ?_⟩
  · rw [hU, hSe, hUo i hip, prTo_app, hM.prep i hi hip hsi, filter_one n i p hi hip _ rfl]
    have hle := h.le i hi
    rw [show (f p).es.length + 1 - (f i).es.length = ((f p).es.length - (f i).es.length) + 1 from by omega, opsFrom_last]
    congr 2
    rw [hop]
    show (((f p).es.length + 1 : Nat) : Int) = _
    congr 1
    omega
  · rw [hU, hUo i hip, hhas i hip]
    rcases hM.ok i hi hip hsi with ho | ⟨x, hx, x5, xf, xo⟩
    · exact .inl ho
    · exact .inr ⟨x, List.mem_append_left _ hx, x5, xf, xo⟩
  · rw [hUo i (fun c => by rw [c, hM.spp] at hsi; cases hsi)]
    exact hM.mute i hi hsi
  · rw [wt_app]
    have := wt_all (toAll n p ⟨4, (f p).view, 0, ((f p).op + 1 : Nat), S.commit, S.floor, 0, e⟩)
    have := toAll_len n p ⟨4, (f p).view, 0, ((f p).op + 1 : Nat), S.commit, S.floor, 0, e⟩
    omega
theorem begin_m (n v : Nat) (h1 : 1 ≤ n) (h7 : n ≤ 7) (hs : sp (v % n) = true) : MInv n (v % n) sp (fun j => c0 j n v) [] := by
  have hz : ∀ i, nat_ z7 i = 0 := fun i => by
    unfold nat_ z7
    match i with
    | 0 | 1 | 2 | 3 | 4 | 5 | 6 => rfl
    | i + 7 => simp
  have hk : kth n z7 ≤ 0 := by
    have h := kth_has (l := z7) (n := n) (F := fun _ => 0) h1 (by simp [z7]; omega) (fun i _ => by rw [hz]; exact Int.le_refl _) (Int.le_refl _)
    obtain ⟨i, hi, hF⟩ := count_pos (Nat.le_trans (by omega : 1 ≤ n / 2 + 1) h)
    simpa using hF
  exact ⟨hs, fun t ht htp _ => by simp [prTo, opsFrom, c0], fun b hb hbp _ => .inl (by show nat_ z7 b = _; rw [hz]; simp [c0]), by show nat_ z7 _ = _; rw [hz]; simp [c0], hk, fun t ht _ => rfl⟩
/-- nothing is on its way: enough hear -/
theorem quiet_all (h : GInv n v p f []) (hM : MInv n p sp f []) (hc : n / 2 + 1 ≤ (List.range n).countP sp) : (f p).commit = (f p).es.length := by
  have hp := h.pn
  have hn7 := h.n7
  have hl7 := h.has7
  have h1 := h.n1
  have ha : ∀ t, t < n → sp t = true → (f t).es.length = (f p).es.length := fun t ht hst => by
    by_cases e : t = p
    · rw [e]
    · have hpr := hM.prep t ht e hst
      have hle := h.le t ht
      cases hz : (f p).es.length - (f t).es.length with
      | zero => omega
      | succ k => rw [hz, opsFrom_succ] at hpr; simp [prTo] at hpr
  have hb : ∀ b, b < n → sp b = true → nat_ (f p).has b = (f p).es.length := fun b hb hsb => by
    by_cases e : b = p
    · rw [e]; exact hM.own
    · rcases hM.ok b hb e hsb with ho | ⟨x, hx, _⟩
      · rw [ho, ha b hb hsb]
      · simp at hx
  have hk : ((f p).es.length : Int) ≤ kth n (f p).has := by
    rw [le_kth h1 (by omega), count_take (by omega)]
    refine Nat.le_trans hc (count_mono n fun i hi hF => ?_)
    rw [hb i hi hF]
    simp
  have := hM.set
  have := (h.fl0 p hp).2.2
  omega
/-- too few hear -/
theorem quiet_none (h : GInv n v p f bag) (hM : MInv n p sp f bag) (hc : (List.range n).countP sp < n / 2 + 1) : (f p).commit = 0 := by
  have hp := h.pn
  have h0 := h.fl0 p hp
  by_cases h1 : 1 ≤ (f p).commit
  · exfalso
    have hh := h.hav
    have : (List.range n).countP (fun i => decide ((f p).commit ≤ (f i).es.length)) ≤ (List.range n).countP sp := count_mono n fun i hi hF => by
      cases hsi : sp i with
      | true => rfl
      | false =>
        rw [hM.mute i hi hsi] at hF
        simp at hF
        omega
    omega
  · omega
/-- who is silent: so many in a row behind the primary -/
def spk (n fr s k : Nat) : Bool := !decide (0 < k ∧ (k - 1 + fr) % (n - 1) < s)
theorem spk_mod (n fr s k : Nat) : spk n fr s k = spk n (fr % (n - 1)) s k := by
  unfold spk
  rw [Nat.add_mod_mod]
theorem spk_count {n : Nat} (hn : n = 3 ∨ n = 5 ∨ n = 7) (fr s : Nat) (hs : s = n / 2 ∨ s = n / 2 + 1) : (List.range n).countP (spk n fr s) = n - s := by
  have e : spk n fr s = spk n (fr % (n - 1)) s := funext fun k => spk_mod n fr s k
  rw [e]
  have hr : fr % (n - 1) < n - 1 := Nat.mod_lt _ (by omega)
  obtain ⟨r, hr2⟩ : ∃ r, r = fr % (n - 1) := ⟨_, rfl⟩
  rw [← hr2] at hr ⊢
  clear hr2 e
  have key : ∀ n ∈ [3, 5, 7], ∀ r, r < n - 1 → (List.range n).countP (spk n r (n / 2)) = n - n / 2 ∧ (List.range n).countP (spk n r (n / 2 + 1)) = n - (n / 2 + 1) := by decide
  have k := key n (by simp; omega) r hr
  rcases hs with rfl | rfl
  · exact k.1
  · exact k.2
end
end SL
