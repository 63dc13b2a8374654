/-
  If all comes, in order: what stays so.
-/
import Derived.Test.YtjnlkljmaiddnaaCo18
set_option linter.unusedVariables false
set_option linter.unusedSimpArgs false
set_option maxRecDepth 10000
namespace SL
open Go Go.Proofs Go.RowKit
/-- the entries on their way to a node -/
def prTo (t : Nat) (bag : List (Nat × Mg)) : List Int := (bag.filter fun x => decide (x.2.kind = 4 ∧ x.1 = t)).map fun x => x.2.op
theorem prTo_app (t : Nat) (a b : List (Nat × Mg)) : prTo t (a ++ b) = prTo t a ++ prTo t b := by simp [prTo]
theorem prTo_yes {t : Nat} {x : Nat × Mg} {b : List (Nat × Mg)} (h : x.2.kind = 4 ∧ x.1 = t) : prTo t (x :: b) = x.2.op :: prTo t b := by simp [prTo, h]
theorem prTo_no {t : Nat} {x : Nat × Mg} {b : List (Nat × Mg)} (h : ¬ (x.2.kind = 4 ∧ x.1 = t)) : prTo t (x :: b) = prTo t b := by simp only [prTo, List.filter_cons]; rw [if_neg (by simpa using h)]
def opsFrom (a k : Nat) : List Int := (List.range k).map fun j => ((a + j : Nat) : Int)
theorem opsFrom_succ (a k : Nat) : opsFrom a (k + 1) = (a : Int) :: opsFrom (a + 1) k := by
  simp only [opsFrom, List.range_succ_eq_map, List.map_cons, List.map_map, Nat.add_zero]
  congr 1
  apply List.map_congr_left
  intro j _
  simp only [Function.comp]
  omega
theorem opsFrom_last (a k : Nat) : opsFrom a (k + 1) = opsFrom a k ++ [((a + k : Nat) : Int)] := by simp [opsFrom, List.range_succ]
/-- what is on its way, and how long it takes -/
def wt (bag : List (Nat × Mg)) : Nat := (bag.map fun x => if x.2.kind = 5 then 1 else 2).sum
theorem wt_app (a b : List (Nat × Mg)) : wt (a ++ b) = wt a + wt b := by simp [wt]
theorem wt_len (b : List (Nat × Mg)) : b.length ≤ wt b := by
  induction b with
  | nil => simp
  | cons x b ih =>
    have : wt (x :: b) = (if x.2.kind = 5 then 1 else 2) + wt b := by simp [wt]
    rw [this, List.length_cons]
    split <;> omega
theorem wt_all (l : List (Nat × Mg)) : wt l ≤ 2 * l.length := by
  induction l with
  | nil => simp [wt]
  | cons x b ih =>
    have : wt (x :: b) = (if x.2.kind = 5 then 1 else 2) + wt b := by simp [wt]
    rw [this, List.length_cons]
    split <;> omega
structure HInv (n p : Nat) (f : Nat → Cs) (bag : List (Nat × Mg)) : Prop where
  prep : ∀ t, t < n → ¬ t = p → prTo t bag = opsFrom ((f t).es.length + 1) ((f p).es.length - (f t).es.length)
  ok : ∀ b, b < n → ¬ b = p → nat_ (f p).has b = (f b).es.length ∨ ∃ x ∈ bag, x.2.kind = 5 ∧ x.2.from_ = (b : Int) ∧ x.2.op = (f b).es.length
  own : nat_ (f p).has p = (f p).es.length
  set : kth n (f p).has ≤ (f p).commit
  fset : min (f p).commit (kth n (f p).dones) ≤ (f p).floor
  dx : ∀ i, i < n → nat_ (f p).dones i ≤ (f p).es.length / 8 * 8
  fx : (f p).floor ≤ (f p).es.length / 8 * 8
  mx : ∀ x ∈ bag, x.2.kind = 5 → x.2.done ≤ (f p).es.length / 8 * 8
section
variable {n v p : Nat} {f : Nat → Cs} {bag rest : List (Nat × Mg)}
/-- what the primary has behind goes -/
theorem goesR_es (s : Cs) : (goesR s).es = s.es := rfl
theorem goesR_has (s : Cs) : (goesR s).has = s.has.set s.me s.op := rfl
theorem goesR_dones (s : Cs) : (goesR s).dones = s.dones := rfl
theorem goesR_set (s : Cs) : kth s.n (goesR s).has ≤ (goesR s).commit := by
  show kth s.n (s.has.set s.me s.op) ≤ max s.commit (kth s.n (s.has.set s.me s.op))
  omega
theorem goesR_fset (s : Cs) : min (goesR s).commit (kth s.n (goesR s).dones) ≤ (goesR s).floor := by
  show min (max s.commit (kth s.n (s.has.set s.me s.op))) (kth s.n s.dones) ≤ max s.floor (min (max s.commit (kth s.n (s.has.set s.me s.op))) (kth s.n s.dones))
  omega
theorem goesR_fle (s : Cs) {X : Int} (h1 : 1 ≤ s.n) (hl : s.n ≤ s.dones.length) (hf : s.floor ≤ X) (hd : ∀ i, i < s.n → nat_ s.dones i ≤ X) : (goesR s).floor ≤ X := by
  show max s.floor (min (max s.commit (kth s.n (s.has.set s.me s.op))) (kth s.n s.dones)) ≤ X
  have hk : kth s.n s.dones ≤ X := by
    have h := kth_has (F := fun _ => X) h1 hl hd (Int.le_refl _)
    obtain ⟨i, hi, hF⟩ := count_pos (Nat.le_trans (by omega : 1 ≤ s.n / 2 + 1) h)
    simpa using hF
  omega
theorem primary_goes (h : GInv n v p f bag) (hH : HInv n p f bag) {s : Cs} (hme : s.me = p) (hn : s.n = n) (hb : s.base = 0) (h7 : s.has.length = 7) (d7 : s.dones.length = 7) (hfl : s.floor = (f p).floor) (hle : (f p).es.length ≤ s.es.length)
    (hd : ∀ i, i < n → nat_ s.dones i ≤ s.es.length / 8 * 8) :
    nat_ (goesR s).has p = s.es.length ∧ (∀ b, ¬ b = p → nat_ (goesR s).has b = nat_ s.has b) ∧ kth n (goesR s).has ≤ (goesR s).commit ∧ min (goesR s).commit (kth n (goesR s).dones) ≤ (goesR s).floor ∧ (goesR s).floor ≤ s.es.length / 8 * 8 := by
  have hp := h.pn
  have hn7 := h.n7
  have h1 := h.n1
  have hop : s.op = s.es.length := op_len hb
  have a := goesR_set s
  have b := goesR_fset s
  rw [hn] at a b
  refine ⟨?_, fun i hi => ?_, a, b, goesR_fle s (by omega) (by omega) (by rw [hfl]; have := hH.fx; omega) (fun i hi => hd i (by omega))⟩
  · rw [goesR_has, hme, hop, nat_set_of (by omega), if_pos rfl]
  · rw [goesR_has, hme, nat_set_of (by omega), if_neg hi]
variable {t : Nat} {m : Mg}
/-- the first message comes: what there is -/
theorem come_form (h : GInv n v p f ((t, m) :: rest)) (hH : HInv n p f ((t, m) :: rest)) :
    (m.kind = 4 ∧ t < n ∧ ¬ t = p ∧ m.op = ((f t).es.length + 1 : Nat) ∧ (f t).es.length < (f p).es.length ∧ m.commit ≤ (f p).commit ∧ comeR p f rest t m = (up f t (learnR (addE (f t) m.e) m.commit m.floor), rest ++ [(p, ⟨5, (f t).view, t, ((f t).es.length + 1 : Nat), 0, 0, (f t).commit / 8 * 8, e0⟩)])) ∨
    (m.kind = 6 ∧ t < n ∧ ¬ t = p ∧ m.commit ≤ (f p).commit ∧ comeR p f rest t m = (up f t (learnR (f t) m.commit m.floor), rest ++ [(p, ⟨5, (f t).view, t, (f t).es.length, 0, 0, (f t).commit / 8 * 8, e0⟩)])) ∨
    (m.kind = 5 ∧ t = p ∧ ∃ b : Nat, m.from_ = b ∧ b < n ∧ ¬ b = p ∧ m.op ≤ (f b).es.length ∧ m.done ≤ (f b).commit ∧ comeR p f rest t m = (up f p (goesR (okR (f p) b m.op m.done)), rest)) := by
  rcases h.msg (t, m) (by simp) with ⟨h1, h2, h3, h4, h5, h6, j, h7, h8, h9⟩ | ⟨h1, h2, h3, h4, h5, h6⟩ | ⟨h1, h2, h3, b, h4, h5, h6, h7, h8⟩
  · simp only at h1 h2 h3 h5 h8
    have hop : (f t).op = (f t).es.length := op_len (h.base t h2)
    have hpr := hH.prep t h2 h3
    rw [prTo_yes (x := (t, m)) ⟨h1, rfl⟩] at hpr
    have hk : (f p).es.length - (f t).es.length = ((f p).es.length - (f t).es.length - 1) + 1 := by
      cases hz : (f p).es.length - (f t).es.length with
      | zero => rw [hz] at hpr; simp [opsFrom] at hpr
      | succ k => omega
    rw [hk, opsFrom_succ] at hpr
    have hmo : m.op = ((f t).es.length + 1 : Nat) := by simpa using (List.cons.inj hpr).1
    refine .inl ⟨h1, h2, h3, hmo, by omega, h5, ?_⟩
    unfold comeR
    rw [if_pos h1, if_neg (by rw [hop, hmo]; omega), if_pos (by rw [hop, hmo]; omega), hop]
  · simp only at h1 h2 h3 h5
    have hop : (f t).op = (f t).es.length := op_len (h.base t h2)
    refine .inr (.inl ⟨h1, h2, h3, h5, ?_⟩)
    unfold comeR
    rw [if_neg (by omega), if_pos h1, hop]
  · simp only at h1 h2 h4 h7 h8
    refine .inr (.inr ⟨h1, h2, b, h4, h5, h6, h7, h8, ?_⟩)
    unfold comeR
    rw [if_neg (by omega), if_neg (by omega), h2, h4]
    simp
theorem learnR_es (s : Cs) (c x : Int) : (learnR s c x).es = s.es := rfl
theorem addE_len (s : Cs) (e : En) : (addE s e).es.length = s.es.length + 1 := by simp [addE]
theorem wt_cons (x : Nat × Mg) (b : List (Nat × Mg)) : wt (x :: b) = (if x.2.kind = 5 then 1 else 2) + wt b := by simp [wt]
theorem come_h (h : GInv n v p f ((t, m) :: rest)) (hH : HInv n p f ((t, m) :: rest)) : HInv n p (comeR p f rest t m).1 (comeR p f rest t m).2 ∧ wt (comeR p f rest t m).2 < wt ((t, m) :: rest) := by
  have hp := h.pn
  have hn7 := h.n7
  have hl7 := h.has7
  have hd7 := h.don7
  rw [wt_cons]
  rcases come_form h hH with ⟨k, h1, h2, h3, h4, h5, e⟩ | ⟨k, h1, h2, h5, e⟩ | ⟨k, rfl, b, h1, h2, h3, h4, h5, e⟩
  · rw [e]
    dsimp only
    obtain ⟨S, hS⟩ : ∃ S, S = learnR (addE (f t) m.e) m.commit m.floor := ⟨_, rfl⟩
    have hSl : S.es.length = (f t).es.length + 1 := by rw [hS, learnR_es, addE_len]
    rw [← hS]
    have hUp : up f t S p = f p := up_other (fun e => h2 e.symm)
    have hc := h.fl0 t h1
    refine ⟨⟨fun i hi hip => ?_, fun i hi hip => ?_, by rw [hUp]; exact hH.own, by rw [hUp]; exact hH.set, by rw [hUp]; exact hH.fset, fun i hi => by rw [hUp]; exact hH.dx i hi, by rw [hUp]; exact hH.fx, fun x hx hx5 => ?_⟩, ?_⟩
    · rw [hUp, prTo_app]
      have hpr := hH.prep i hi hip
      by_cases ei : i = t
      · subst ei
        rw [up_same, hSl]
        rw [prTo_yes (x := (i, m)) ⟨k, rfl⟩] at hpr
        have hk : (f p).es.length - (f i).es.length = ((f p).es.length - ((f i).es.length + 1)) + 1 := by omega
        rw [hk, opsFrom_succ] at hpr
        rw [(List.cons.inj hpr).2]
        simp [prTo]
      · rw [up_other ei]
        rw [prTo_no (by simp only; intro c; exact ei c.2.symm)] at hpr
        rw [hpr]
        simp [prTo]
    · rw [hUp]
      by_cases ei : i = t
      · subst ei
        rw [up_same, hSl]
        exact .inr ⟨_, List.mem_append_right _ (List.mem_singleton.2 rfl), rfl, rfl, rfl⟩
      · rw [up_other ei]
        rcases hH.ok i hi hip with ho | ⟨x, hx, x5, xf, xo⟩
        · exact .inl ho
        · rcases List.mem_cons.1 hx with rfl | hx
          · simp only at x5; omega
          · exact .inr ⟨x, List.mem_append_left _ hx, x5, xf, xo⟩
    · rw [hUp]
      rcases List.mem_append.1 hx with hx | hx
      · exact hH.mx x (List.mem_cons_of_mem _ hx) hx5
      · obtain rfl : x = _ := by simpa using hx
        simp only
        omega
    · rw [wt_app, if_neg (show ¬ m.kind = 5 by omega)]
      simp [wt]
      omega
  · rw [e]
    dsimp only
    obtain ⟨S, hS⟩ : ∃ S, S = learnR (f t) m.commit m.floor := ⟨_, rfl⟩
    have hSl : S.es.length = (f t).es.length := by rw [hS, learnR_es]
    rw [← hS]
    have hUp : up f t S p = f p := up_other (fun e => h2 e.symm)
    have hc := h.fl0 t h1
    have hlt := h.le t h1
    have hlen : ∀ i, (up f t S i).es.length = (f i).es.length := fun i => by
      by_cases ei : i = t
      · rw [ei, up_same, hSl]
      · rw [up_other ei]
    refine ⟨⟨fun i hi hip => ?_, fun i hi hip => ?_, by rw [hUp]; exact hH.own, by rw [hUp]; exact hH.set, by rw [hUp]; exact hH.fset, fun i hi => by rw [hUp]; exact hH.dx i hi, by rw [hUp]; exact hH.fx, fun x hx hx5 => ?_⟩, ?_⟩
    · rw [hlen, hlen, prTo_app]
      have hpr := hH.prep i hi hip
      rw [prTo_no (x := (t, m)) (fun c => by have h4 : m.kind = 4 := c.1; omega)] at hpr
      rw [hpr]
      simp [prTo]
    · rw [hUp, hlen]
      rcases hH.ok i hi hip with ho | ⟨x, hx, x5, xf, xo⟩
      · exact .inl ho
      · rcases List.mem_cons.1 hx with rfl | hx
        · simp only at x5; omega
        · exact .inr ⟨x, List.mem_append_left _ hx, x5, xf, xo⟩
    · rw [hUp]
      rcases List.mem_append.1 hx with hx | hx
      · exact hH.mx x (List.mem_cons_of_mem _ hx) hx5
      · obtain rfl : x = _ := by simpa using hx
        simp only
        omega
    · rw [wt_app, if_neg (show ¬ m.kind = 5 by omega)]
      simp [wt]
      omega
  · rw [e]
    dsimp only
    have hmx := hH.mx (t, m) (by simp) k
    simp only at hmx
    have hs : ∀ i, i < n → nat_ (okR (f t) b m.op m.done).dones i ≤ (f t).es.length / 8 * 8 := fun i hi => by
      have hii := hH.dx i hi
      show nat_ ((f t).dones.set b (max (nat_ (f t).dones b) m.done)) i ≤ _
      rw [nat_set_of (by omega)]
      split
      · rename_i ei; subst ei; omega
      · exact hii
    obtain ⟨g1, g2, g3, g4, g5⟩ := primary_goes h hH (s := okR (f t) b m.op m.done) (h.me t hp) (h.nn t hp) (h.base t hp) (by simp [okR, hl7]) (by simp [okR, hd7]) rfl (Nat.le_refl _) hs
    have hhas : ∀ i, ¬ i = t → nat_ (goesR (okR (f t) b m.op m.done)).has i = if i = b then max (nat_ (f t).has b) m.op else nat_ (f t).has i := fun i hi => by
      rw [g2 i hi]
      show nat_ ((f t).has.set b (max (nat_ (f t).has b) m.op)) i = _
      rw [nat_set_of (by omega)]
    obtain ⟨S, hS⟩ : ∃ S, S = goesR (okR (f t) b m.op m.done) := ⟨_, rfl⟩
    have hSe : S.es = (f t).es := by rw [hS]; rfl
    have hSd : S.dones = (okR (f t) b m.op m.done).dones := by rw [hS]; rfl
    rw [← hS] at g1 g3 g4 g5 hhas ⊢
    have hU : up f t S t = S := up_same f t S
    have hUo : ∀ i, ¬ i = t → up f t S i = f i := fun i hi => up_other hi
    have e1 : (okR (f t) b m.op m.done).es = (f t).es := rfl
    rw [e1] at g1 g5
    refine ⟨⟨fun i hi hip => ?_, fun i hi hip => ?_, by rw [hU, hSe]; exact g1, by rw [hU]; exact g3, by rw [hU]; exact g4, fun i hi => by rw [hU, hSe, hSd]; exact hs i hi, by rw [hU, hSe]; exact g5, fun x hx hx5 => ?_⟩, ?_⟩
    · rw [hU, hSe, hUo i hip]
      have hpr := hH.prep i hi hip
      rw [prTo_no (x := (t, m)) (fun c => by have h4 : m.kind = 4 := c.1; omega)] at hpr
      exact hpr
    · rw [hU, hUo i hip, hhas i hip]
      have hle := h.has i hi
      by_cases ei : i = b
      · subst ei
        rw [if_pos rfl]
        rcases hH.ok i hi hip with ho | ⟨x, hx, x5, xf, xo⟩
        · left; omega
        · rcases List.mem_cons.1 hx with rfl | hx
          · left; simp only at xo; omega
          · exact .inr ⟨x, hx, x5, xf, xo⟩
      · rw [if_neg ei]
        rcases hH.ok i hi hip with ho | ⟨x, hx, x5, xf, xo⟩
        · exact .inl ho
        · rcases List.mem_cons.1 hx with rfl | hx
          · simp only at xf; omega
          · exact .inr ⟨x, hx, x5, xf, xo⟩
    · rw [hU, hSe]
      exact hH.mx x (List.mem_cons_of_mem _ hx) hx5
    · rw [if_pos k]
      omega
end
end SL
