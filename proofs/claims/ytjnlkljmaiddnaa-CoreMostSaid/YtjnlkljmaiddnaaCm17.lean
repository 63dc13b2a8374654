/-
  What stays so, whatever happens in a group.
-/
import Derived.Test.YtjnlkljmaiddnaaCm16
set_option linter.unusedVariables false
set_option linter.unusedSimpArgs false
set_option maxRecDepth 10000
namespace SL
open Go Go.Proofs Go.RowKit
section
variable {n v p : Nat} {f f' : Nat → Cs} {bag bag' : List (Nat × Mg)}
theorem GInv.less (h : GInv n v p f bag) (hb : ∀ x ∈ bag', x ∈ bag) : GInv n v p f bag' :=
  ⟨h.n1, h.n7, h.pp, h.vv, h.me, h.nn, h.vw, h.base, h.len, h.le, h.pre, h.ent, h.has7, h.don7, h.fl0, h.cp, h.has, h.don, h.hav, h.dnn, fun x hx => h.msg x (hb x hx)⟩
theorem GInv.more (h : GInv n v p f bag) {l : List (Nat × Mg)} (hl : ∀ x ∈ l, MsgI n v p f x) : GInv n v p f (bag ++ l) :=
  ⟨h.n1, h.n7, h.pp, h.vv, h.me, h.nn, h.vw, h.base, h.len, h.le, h.pre, h.ent, h.has7, h.don7, h.fl0, h.cp, h.has, h.don, h.hav, h.dnn, fun x hx => by
    rcases List.mem_append.1 hx with hx | hx
    · exact h.msg x hx
    · exact hl x hx⟩
theorem Grow.refl (n p : Nat) (f : Nat → Cs) : Grow n p f f := ⟨fun _ _ => Nat.le_refl _, fun _ _ => Int.le_refl _, Int.le_refl _, fun _ _ => rfl⟩
/-- a backup goes on -/
theorem learn_inv (h : GInv n v p f bag) {t : Nat} (ht : t < n) (htp : ¬ t = p) {s : Cs} {c fl : Int} (hme : s.me = t) (hn : s.n = n) (hv : s.view = v) (hb : s.base = 0) (hle : (f t).es.length ≤ s.es.length) (hle2 : s.es.length ≤ (f p).es.length)
    (hpre : ∀ j, j < s.es.length → s.es[j]? = (f p).es[j]?) (hco : s.commit = (f t).commit) (hfl : s.floor = (f t).floor) (hc : c ≤ (f p).commit) :
    GInv n v p (up f t (learnR s c fl)) bag ∧ Grow n p f (up f t (learnR s c fl)) := by
  have hp := h.pn
  have hop : s.op = s.es.length := op_len hb
  obtain ⟨co, hcoe⟩ : ∃ co, co = max s.commit (min c (s.es.length : Int)) := ⟨_, rfl⟩
  obtain ⟨fl', hfle⟩ : ∃ fl', fl' = max s.floor (min fl co) := ⟨_, rfl⟩
  obtain ⟨S, hS⟩ : ∃ S, S = learnR s c fl := ⟨_, rfl⟩
  have hG : S = { s with commit := co, floor := fl' } := by
    rw [hS]
    unfold learnR
    rw [hop, ← hcoe, ← hfle]
  rw [← hS]
  have e1 : S.me = t := by rw [hG]; exact hme
  have e2 : S.n = n := by rw [hG]; exact hn
  have e3 : S.view = v := by rw [hG]; exact hv
  have e4 : S.base = 0 := by rw [hG]; exact hb
  have e5 : S.es = s.es := by rw [hG]
  have e8 : S.commit = co := by rw [hG]
  have e9 : S.floor = fl' := by rw [hG]
  have hU : up f t S t = S := up_same f t S
  have hUo : ∀ i, ¬ i = t → up f t S i = f i := fun i hi => up_other hi
  have hUp : up f t S p = f p := hUo p (fun e => htp e.symm)
  have hf0 := h.fl0 t ht
  have hcp := h.cp t ht
  have hlens : ∀ i, i < n → (f i).es.length ≤ (up f t S i).es.length := fun i hi => by
    by_cases e : i = t
    · rw [e, hU, e5]; exact hle
    · rw [hUo i e]; exact Nat.le_refl _
  have hcoms : ∀ i, i < n → (f i).commit ≤ (up f t S i).commit := fun i hi => by
    by_cases e : i = t
    · rw [e, hU, e8, hcoe]; omega
    · rw [hUo i e]; exact Int.le_refl _
  have grow : Grow n p f (up f t S) := ⟨hlens, hcoms, by rw [hUp]; exact Int.le_refl _, fun j hj => by rw [hUp]⟩
  refine ⟨⟨h.n1, h.n7, h.pp, h.vv, fun i hi => ?_, fun i hi => ?_, fun i hi => ?_, fun i hi => ?_, by rw [hUp]; exact h.len, fun i hi => ?_, fun i hi j hj => ?_, by rw [hUp]; exact h.ent, by rw [hUp]; exact h.has7, by rw [hUp]; exact h.don7, fun i hi => ?_, fun i hi => ?_, fun i hi => ?_, fun i hi => ?_, ?_, ?_, fun x hx => (h.msg x hx).grow hp grow⟩, grow⟩
  · by_cases e : i = t
    · rw [e, hU]; exact e1
    · rw [hUo i e]; exact h.me i hi
  · by_cases e : i = t
    · rw [e, hU]; exact e2
    · rw [hUo i e]; exact h.nn i hi
  · by_cases e : i = t
    · rw [e, hU]; exact e3
    · rw [hUo i e]; exact h.vw i hi
  · by_cases e : i = t
    · rw [e, hU]; exact e4
    · rw [hUo i e]; exact h.base i hi
  · rw [hUp]
    by_cases e : i = t
    · rw [e, hU, e5]; exact hle2
    · rw [hUo i e]; exact h.le i hi
  · rw [hUp]
    by_cases e : i = t
    · rw [e, hU, e5] at hj ⊢; exact hpre j hj
    · rw [hUo i e] at hj ⊢; exact h.pre i hi j hj
  · by_cases e : i = t
    · rw [e, hU, e8, e9, e5]; exact ⟨by omega, by omega, by rw [hcoe]; omega⟩
    · rw [hUo i e]; exact h.fl0 i hi
  · rw [hUp]
    by_cases e : i = t
    · rw [e, hU, e8, hcoe]; omega
    · rw [hUo i e]; exact h.cp i hi
  · rw [hUp]; have := h.has i hi; have := hlens i hi; omega
  · rw [hUp]; have := h.don i hi; have := hcoms i hi; omega
  · rw [hUp]
    refine Nat.le_trans h.hav (count_mono n fun i hi hF => ?_)
    have := hlens i hi
    simp only [decide_eq_true_eq] at hF ⊢
    omega
  · rw [hUp]
    refine Nat.le_trans h.dnn (count_mono n fun i hi hF => ?_)
    have := hcoms i hi
    simp only [decide_eq_true_eq] at hF ⊢
    omega
theorem come_inv (h : GInv n v p f bag) {t : Nat} {m : Mg} (hx : MsgI n v p f (t, m)) : GInv n v p (comeR p f bag t m).1 (comeR p f bag t m).2 ∧ Grow n p f (comeR p f bag t m).1 := by
  have hp := h.pn
  unfold comeR
  rcases hx with ⟨h1, h2, h3, h4, h5, h6, j, h7, h8, h9⟩ | ⟨h1, h2, h3, h4, h5, h6⟩ | ⟨h1, h2, h3, b, h4, h5, h6, h7, h8⟩
  · simp only at h1 h2 h3 h4 h5 h6 h8 h9
    rw [if_pos h1]
    have hop : (f t).op = (f t).es.length := op_len (h.base t h2)
    have hlt := h.le t h2
    by_cases hf : (((f t).op : Nat) : Int) + 1 < m.op
    · rw [if_pos hf]
      exact ⟨h, Grow.refl _ _ _⟩
    · rw [if_neg hf]
      by_cases he : m.op = (((f t).op : Nat) : Int) + 1
      · rw [if_pos he]
        have hj : j = (f t).es.length := by omega
        obtain ⟨g1, g2⟩ := learn_inv h h2 h3 (s := addE (f t) m.e) (c := m.commit) (fl := m.floor) (h.me t h2) (h.nn t h2) (h.vw t h2) (h.base t h2) (by simp [addE]) (by simp [addE]; omega)
          (fun i hi => by
            simp only [addE, List.length_append, List.length_singleton] at hi ⊢
            by_cases hi2 : i < (f t).es.length
            · rw [List.getElem?_append_left hi2]; exact h.pre t h2 i hi2
            · have : i = j := by omega
              subst this
              rw [List.getElem?_append_right (by omega), h9, hj]
              simp) rfl rfl h5
        refine ⟨g1.more fun x hx => ?_, g2⟩
        obtain rfl : x = _ := by simpa using hx
        refine .inr (.inr ⟨rfl, rfl, h.vw t h2 ▸ rfl, t, rfl, h2, h3, ?_, ?_⟩)
        · rw [up_same]; simp [learnR, addE, hop]
        · have := g2.com t h2
          have := h.fl0 t h2
          simp only
          omega
      · rw [if_neg he]
        obtain ⟨g1, g2⟩ := learn_inv h h2 h3 (s := f t) (c := m.commit) (fl := m.floor) (h.me t h2) (h.nn t h2) (h.vw t h2) (h.base t h2) (Nat.le_refl _) hlt (fun i hi => h.pre t h2 i hi) rfl rfl h5
        refine ⟨g1.more fun x hx => ?_, g2⟩
        obtain rfl : x = _ := by simpa using hx
        refine .inr (.inr ⟨rfl, rfl, h.vw t h2 ▸ rfl, t, rfl, h2, h3, ?_, ?_⟩)
        · rw [up_same]; simp [learnR, hop]
        · have := g2.com t h2
          have := h.fl0 t h2
          simp only
          omega
  · simp only at h1 h2 h3 h4 h5 h6
    rw [if_neg (by omega), if_pos h1]
    have hop : (f t).op = (f t).es.length := op_len (h.base t h2)
    obtain ⟨g1, g2⟩ := learn_inv h h2 h3 (s := f t) (c := m.commit) (fl := m.floor) (h.me t h2) (h.nn t h2) (h.vw t h2) (h.base t h2) (Nat.le_refl _) (h.le t h2) (fun i hi => h.pre t h2 i hi) rfl rfl h5
    refine ⟨g1.more fun x hx => ?_, g2⟩
    obtain rfl : x = _ := by simpa using hx
    refine .inr (.inr ⟨rfl, rfl, h.vw t h2 ▸ rfl, t, rfl, h2, h3, ?_, ?_⟩)
    · rw [up_same]; simp [learnR, hop]
    · have := g2.com t h2
      have := h.fl0 t h2
      simp only
      omega
  · simp only at h1 h2 h3 h4 h7 h8
    rw [if_neg (by omega), if_neg (by omega)]
    subst h2
    have hb : m.from_.toNat = b := by omega
    rw [hb]
    have hl7 := h.has7
    have hd7 := h.don7
    have hn7 := h.n7
    refine goes_inv h (s := okR (f t) b m.op m.done) (h.me t hp) (h.nn t hp) (h.vw t hp) (h.base t hp) h.len (Nat.le_refl _) (fun _ _ => rfl) h.ent (by simp [okR, hl7]) (by simp [okR, hd7]) rfl rfl (fun i hi => ?_) (fun i hi => ?_)
    · have hii := h.has i hi
      show nat_ ((f t).has.set b (max (nat_ (f t).has b) m.op)) i ≤ _
      rw [nat_set_of (by omega)]
      split
      · rename_i e
        subst e
        rw [if_neg h6]
        omega
      · split
        · rename_i e; subst e; exact hii
        · exact hii
    · have hii := h.don i hi
      show nat_ ((f t).dones.set b (max (nat_ (f t).dones b) m.done)) i ≤ _
      rw [nat_set_of (by omega)]
      split
      · rename_i e
        subst e
        omega
      · exact hii
theorem mem_toAll {fr : Nat} {m : Mg} {x : Nat × Mg} (h : x ∈ toAll n fr m) : x.1 < n ∧ x.1 ≠ fr ∧ x.2 = m := by
  simp only [toAll, List.mem_map, List.mem_filter, List.mem_range] at h
  obtain ⟨i, ⟨h1, h2⟩, rfl⟩ := h
  exact ⟨h1, by simpa using h2, rfl⟩
theorem prop_inv (h : GInv n v p f bag) {e : En} (he : e.2.2.2.length ≤ 1000000000000) : GInv n v p (propR n p f bag e).1 (propR n p f bag e).2 ∧ Grow n p f (propR n p f bag e).1 := by
  have hp := h.pn
  unfold propR
  by_cases hl : (f p).es.length < 64
  · rw [if_pos hl]
    have hop : (f p).op = (f p).es.length := op_len (h.base p hp)
    obtain ⟨g1, g2⟩ := goes_inv h (s := addE (f p) e) (h.me p hp) (h.nn p hp) (h.vw p hp) (h.base p hp) (by simp [addE]; omega) (by simp [addE]) (fun j hj => by simp only [addE]; rw [List.getElem?_append_left hj])
      (fun x hx => by
        rcases List.mem_append.1 hx with hx | hx
        · exact h.ent x hx
        · simp at hx; subst hx; exact he) h.has7 h.don7 rfl rfl
      (fun i hi => by
        have := h.has i hi
        split
        · rename_i e'; subst e'; simp only [addE, List.length_append, List.length_singleton]; omega
        · exact this) h.don
    refine ⟨g1.more fun x hx => ?_, g2⟩
    obtain ⟨a1, a2, a3⟩ := mem_toAll hx
    refine .inl ⟨by rw [a3], a1, a2, by rw [a3]; exact h.vw p hp ▸ rfl, by rw [a3, up_same]; exact Int.le_refl _, by rw [a3, up_same]; exact Int.le_refl _, (f p).es.length, by rw [up_same]; simp [goesR, addE], by rw [a3, hop], ?_⟩
    rw [up_same, a3]
    show ((f p).es ++ [e])[(f p).es.length]? = some e
    simp
  · rw [if_neg hl]
    exact ⟨h, Grow.refl _ _ _⟩
theorem beat_inv (h : GInv n v p f bag) : GInv n v p (beatG n p f bag).1 (beatG n p f bag).2 ∧ Grow n p f (beatG n p f bag).1 := by
  have hp := h.pn
  have hn7 := h.n7
  have hd7 := h.don7
  unfold beatG
  obtain ⟨g1, g2⟩ := goes_inv h (s := beatR (f p) ((f p).commit / 8 * 8)) (h.me p hp) (h.nn p hp) (h.vw p hp) (h.base p hp) h.len (Nat.le_refl _) (fun _ _ => rfl) h.ent h.has7 (by simp [beatR, hd7]) rfl rfl
    (fun i hi => by
      have := h.has i hi
      split
      · rename_i e'; subst e'; exact this
      · exact this)
    (fun i hi => by
      have hii := h.don i hi
      have hf0 := h.fl0 p hp
      show nat_ ((f p).dones.set (f p).me (max (nat_ (f p).dones (f p).me) ((f p).commit / 8 * 8))) i ≤ _
      rw [h.me p hp, nat_set_of (by omega)]
      split
      · rename_i e'
        subst e'
        omega
      · exact hii)
  refine ⟨g1.more fun x hx => ?_, g2⟩
  obtain ⟨a1, a2, a3⟩ := mem_toAll hx
  exact .inr (.inl ⟨by rw [a3], a1, a2, by rw [a3]; exact h.vw p hp ▸ rfl, by rw [a3, up_same]; exact Int.le_refl _, by rw [a3, up_same]; exact Int.le_refl _⟩)
/-- how it begins -/
theorem begin_inv (h1 : 1 ≤ n) (h7 : n ≤ 7) (hv : v < 18446744073709551616) : GInv n v (v % n) (fun j => c0 j n v) [] := by
  have hz : ∀ i, nat_ z7 i = 0 := fun i => by
    unfold nat_ z7
    match i with
    | 0 | 1 | 2 | 3 | 4 | 5 | 6 => rfl
    | i + 7 => simp
  refine ⟨h1, h7, rfl, hv, fun i hi => rfl, fun i hi => rfl, fun i hi => rfl, fun i hi => rfl, by simp [c0], fun i hi => by simp [c0], fun i hi j hj => rfl, by simp [c0], rfl, rfl, fun i hi => by simp [c0], fun i hi => by simp [c0], fun i hi => ?_, fun i hi => ?_, ?_, ?_, by simp⟩
  · show nat_ z7 i ≤ _; rw [hz]; simp
  · show nat_ z7 i ≤ _; rw [hz]; simp [c0]
  · rw [List.countP_eq_length.2 (by simp [c0])]; simp; omega
  · rw [List.countP_eq_length.2 (by simp [c0])]; simp; omega
end
end SL
