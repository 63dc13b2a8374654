/-
  What happens in a group, in plain terms; what stays so.
-/
import Derived.Test.YtjnlkljmaiddnaaCm14
set_option linter.unusedVariables false
set_option linter.unusedSimpArgs false
set_option maxRecDepth 10000
namespace SL
open Go Go.Proofs Go.RowKit
/-- a message comes -/
def comeR (p : Nat) (f : Nat → Cs) (bag : List (Nat × Mg)) (t : Nat) (m : Mg) : (Nat → Cs) × List (Nat × Mg) :=
  if m.kind = 4 then
    if ((f t).op : Int) + 1 < m.op then (f, bag)
    else if m.op = ((f t).op : Int) + 1 then (up f t (learnR (addE (f t) m.e) m.commit m.floor), bag ++ [(p, ⟨5, (f t).view, t, ((f t).op + 1 : Nat), 0, 0, (f t).commit / 8 * 8, e0⟩)])
    else (up f t (learnR (f t) m.commit m.floor), bag ++ [(p, ⟨5, (f t).view, t, (f t).op, 0, 0, (f t).commit / 8 * 8, e0⟩)])
  else if m.kind = 6 then (up f t (learnR (f t) m.commit m.floor), bag ++ [(p, ⟨5, (f t).view, t, (f t).op, 0, 0, (f t).commit / 8 * 8, e0⟩)])
  else (up f t (goesR (okR (f t) m.from_.toNat m.op m.done)), bag)
/-- the primary takes an entry -/
def propR (n p : Nat) (f : Nat → Cs) (bag : List (Nat × Mg)) (e : En) : (Nat → Cs) × List (Nat × Mg) :=
  if (f p).es.length < 64 then (up f p (goesR (addE (f p) e)), bag ++ toAll n p ⟨4, (f p).view, 0, ((f p).op + 1 : Nat), (goesR (addE (f p) e)).commit, (goesR (addE (f p) e)).floor, 0, e⟩)
  else (f, bag)
def beatG (n p : Nat) (f : Nat → Cs) (bag : List (Nat × Mg)) : (Nat → Cs) × List (Nat × Mg) :=
  (up f p (goesR (beatR (f p) ((f p).commit / 8 * 8))), bag ++ toAll n p ⟨6, (f p).view, 0, (f p).op, (goesR (beatR (f p) ((f p).commit / 8 * 8))).commit, (goesR (beatR (f p) ((f p).commit / 8 * 8))).floor, 0, e0⟩)
def MsgI (n v p : Nat) (f : Nat → Cs) (x : Nat × Mg) : Prop :=
  (x.2.kind = 4 ∧ x.1 < n ∧ x.1 ≠ p ∧ x.2.view = v ∧ x.2.commit ≤ (f p).commit ∧ x.2.floor ≤ (f p).floor ∧ ∃ j, j < (f p).es.length ∧ x.2.op = ((j + 1 : Nat) : Int) ∧ (f p).es[j]? = some x.2.e) ∨
  (x.2.kind = 6 ∧ x.1 < n ∧ x.1 ≠ p ∧ x.2.view = v ∧ x.2.commit ≤ (f p).commit ∧ x.2.floor ≤ (f p).floor) ∨
  (x.2.kind = 5 ∧ x.1 = p ∧ x.2.view = v ∧ ∃ b : Nat, x.2.from_ = b ∧ b < n ∧ b ≠ p ∧ x.2.op ≤ (f b).es.length ∧ x.2.done ≤ (f b).commit)
structure GInv (n v p : Nat) (f : Nat → Cs) (bag : List (Nat × Mg)) : Prop where
  n1 : 1 ≤ n
  n7 : n ≤ 7
  pp : p = v % n
  vv : v < 18446744073709551616
  me : ∀ i, i < n → (f i).me = i
  nn : ∀ i, i < n → (f i).n = n
  vw : ∀ i, i < n → (f i).view = v
  base : ∀ i, i < n → (f i).base = 0
  len : (f p).es.length ≤ 64
  le : ∀ i, i < n → (f i).es.length ≤ (f p).es.length
  pre : ∀ i, i < n → ∀ j, j < (f i).es.length → (f i).es[j]? = (f p).es[j]?
  ent : ∀ e ∈ (f p).es, e.2.2.2.length ≤ 1000000000000
  has7 : (f p).has.length = 7
  don7 : (f p).dones.length = 7
  fl0 : ∀ i, i < n → 0 ≤ (f i).floor ∧ (f i).floor ≤ (f i).commit ∧ (f i).commit ≤ (f i).es.length
  cp : ∀ i, i < n → (f i).commit ≤ (f p).commit
  has : ∀ i, i < n → nat_ (f p).has i ≤ (f i).es.length
  don : ∀ i, i < n → nat_ (f p).dones i ≤ (f i).commit
  hav : n / 2 + 1 ≤ (List.range n).countP fun i => decide ((f p).commit ≤ (f i).es.length)
  dnn : n / 2 + 1 ≤ (List.range n).countP fun i => decide ((f p).floor ≤ (f i).commit)
  msg : ∀ x ∈ bag, MsgI n v p f x
section
variable {n v p : Nat} {f f' : Nat → Cs} {bag bag' : List (Nat × Mg)}
theorem GInv.pn (h : GInv n v p f bag) : p < n := by rw [h.pp]; exact Nat.mod_lt _ (by have := h.n1; omega)
theorem op_len {s : Cs} (h : s.base = 0) : s.op = s.es.length := by simp [Cs.op, h]
theorem GInv.ok (h : GInv n v p f bag) {i : Nat} (hi : i < n) : CsOk (f i) := by
  refine ⟨by rw [h.nn i hi]; exact h.n1, by rw [h.nn i hi]; exact h.n7, by rw [h.me i hi, h.nn i hi]; exact hi, by rw [h.vw i hi]; exact h.vv, by rw [h.base i hi]; omega, by have := h.le i hi; have := h.len; omega, fun e he => ?_⟩
  obtain ⟨j, hj, rfl⟩ := List.getElem_of_mem he
  have := h.pre i hi j hj
  rw [List.getElem?_eq_getElem hj] at this
  exact h.ent _ (List.mem_of_getElem? this.symm)
/-- counts over the nodes -/
theorem count_mono (n : Nat) {F G : Nat → Bool} (h : ∀ i, i < n → F i = true → G i = true) : (List.range n).countP F ≤ (List.range n).countP G :=
  List.countP_mono_left fun i hi hF => h i (List.mem_range.1 hi) hF
theorem take_nat {l : List Int} {n : Nat} (h : n ≤ l.length) : l.take n = (List.range n).map (nat_ l) := by
  apply List.ext_getElem
  · simp; omega
  · intro i h1 h2
    rw [List.getElem_take, List.getElem_map, List.getElem_range]
    exact nat_eq (by simp at h1; omega)
theorem count_take {l : List Int} {n : Nat} (h : n ≤ l.length) (w : Int) : (l.take n).countP (fun y => decide (w ≤ y)) = (List.range n).countP fun i => decide (w ≤ nat_ l i) := by
  rw [take_nat h, List.countP_map]
  rfl
/-- the greatest but so many is had by enough -/
theorem kth_has {l : List Int} {n : Nat} {F : Nat → Int} (h1 : 1 ≤ n) (hl : n ≤ l.length) (hF : ∀ i, i < n → nat_ l i ≤ F i) {w : Int} (hw : w ≤ kth n l) : n / 2 + 1 ≤ (List.range n).countP fun i => decide (w ≤ F i) := by
  have h := (le_kth h1 hl w).1 hw
  rw [count_take hl] at h
  refine Nat.le_trans h (count_mono n fun i hi hF' => ?_)
  have := hF i hi
  simp at hF' ⊢
  omega
theorem count_pos {n : Nat} {F : Nat → Bool} (h : 1 ≤ (List.range n).countP F) : ∃ i, i < n ∧ F i = true := by
  have := List.countP_pos_iff.1 (show 0 < (List.range n).countP F by omega)
  obtain ⟨i, hi, hF⟩ := this
  exact ⟨i, List.mem_range.1 hi, hF⟩
/-- all goes on, nothing goes back -/
structure Grow (n p : Nat) (f f' : Nat → Cs) : Prop where
  len : ∀ i, i < n → (f i).es.length ≤ (f' i).es.length
  com : ∀ i, i < n → (f i).commit ≤ (f' i).commit
  flo : (f p).floor ≤ (f' p).floor
  ent : ∀ j, j < (f p).es.length → (f' p).es[j]? = (f p).es[j]?
theorem MsgI.grow (hp : p < n) (g : Grow n p f f') {x : Nat × Mg} (h : MsgI n v p f x) : MsgI n v p f' x := by
  have hc := g.com p hp
  have hf := g.flo
  rcases h with ⟨h1, h2, h3, h4, h5, h6, j, h7, h8, h9⟩ | ⟨h1, h2, h3, h4, h5, h6⟩ | ⟨h1, h2, h3, b, h4, h5, h6, h7, h8⟩
  · exact .inl ⟨h1, h2, h3, h4, by omega, by omega, j, by have := g.len p hp; omega, h8, by rw [g.ent j h7]; exact h9⟩
  · exact .inr (.inl ⟨h1, h2, h3, h4, by omega, by omega⟩)
  · exact .inr (.inr ⟨h1, h2, h3, b, h4, h5, h6, by have := g.len b h5; omega, by have := g.com b h5; omega⟩)
theorem nat_set_of {l : List Int} {i k : Nat} {w : Int} (h : i < l.length) : nat_ (l.set i w) k = if k = i then w else nat_ l k := nat_set l i k w h
/-- the primary goes on -/
theorem goes_inv (h : GInv n v p f bag) {s : Cs} (hme : s.me = p) (hn : s.n = n) (hv : s.view = v) (hb : s.base = 0) (hlen : s.es.length ≤ 64) (hle : (f p).es.length ≤ s.es.length) (hpre : ∀ j, j < (f p).es.length → s.es[j]? = (f p).es[j]?)
    (hent : ∀ e ∈ s.es, e.2.2.2.length ≤ 1000000000000) (h7 : s.has.length = 7) (d7 : s.dones.length = 7) (hco : s.commit = (f p).commit) (hfl : s.floor = (f p).floor)
    (hhas : ∀ i, i < n → nat_ s.has i ≤ if i = p then s.es.length else (f i).es.length) (hdon : ∀ i, i < n → nat_ s.dones i ≤ (f i).commit) :
    GInv n v p (up f p (goesR s)) bag ∧ Grow n p f (up f p (goesR s)) := by
  have hp := h.pn
  have h1 := h.n1
  have hn7 := h.n7
  have hop : s.op = s.es.length := op_len hb
  obtain ⟨hs, hhs⟩ : ∃ hs, hs = s.has.set p ((s.es.length : Nat) : Int) := ⟨_, rfl⟩
  have hhl : hs.length = 7 := by rw [hhs]; simp [h7]
  have hhn : ∀ i, i < n → nat_ hs i ≤ if i = p then (s.es.length : Int) else (f i).es.length := fun i hi => by
    rw [hhs, nat_set_of (by omega)]
    split
    · exact Int.le_refl _
    · rename_i e; have := hhas i hi; rw [if_neg e] at this; exact this
  have hG : goesR s = { s with has := hs, commit := max s.commit (kth n hs), floor := max s.floor (min (max s.commit (kth n hs)) (kth n s.dones)) } := by
    unfold goesR
    rw [hme, hop, hn, ← hhs]
  obtain ⟨k, hk⟩ : ∃ k, k = kth n hs := ⟨_, rfl⟩
  obtain ⟨d, hd⟩ : ∃ d, d = kth n s.dones := ⟨_, rfl⟩
  rw [← hk, ← hd] at hG
  obtain ⟨co, hcoe⟩ : ∃ co, co = max s.commit k := ⟨_, rfl⟩
  obtain ⟨fl, hfle⟩ : ∃ fl, fl = max s.floor (min co d) := ⟨_, rfl⟩
  rw [← hcoe, ← hfle] at hG
  obtain ⟨S, hS⟩ : ∃ S, S = goesR s := ⟨_, rfl⟩
  rw [← hS] at hG ⊢
  have e1 : S.me = p := by rw [hG]; exact hme
  have e2 : S.n = n := by rw [hG]; exact hn
  have e3 : S.view = v := by rw [hG]; exact hv
  have e4 : S.base = 0 := by rw [hG]; exact hb
  have e5 : S.es = s.es := by rw [hG]
  have e6 : S.has = hs := by rw [hG]
  have e7 : S.dones = s.dones := by rw [hG]
  have e8 : S.commit = co := by rw [hG]
  have e9 : S.floor = fl := by rw [hG]
  have hUp : up f p S p = S := up_same f p S
  have hUo : ∀ i, ¬ i = p → up f p S i = f i := fun i hi => up_other hi
  have hf0 := h.fl0 p hp
  -- who has what the k-th greatest is
  have hkc : n / 2 + 1 ≤ (List.range n).countP fun i => decide (k ≤ if i = p then (s.es.length : Int) else (f i).es.length) := kth_has h1 (by omega) hhn (by rw [hk]; exact Int.le_refl _)
  obtain ⟨i0, hi0, hk0⟩ := count_pos (Nat.le_trans (by omega : 1 ≤ n / 2 + 1) hkc)
  have hks : k ≤ s.es.length := by
    simp only [decide_eq_true_eq] at hk0
    split at hk0
    · exact hk0
    · have := h.le i0 hi0; omega
  have hcole : co ≤ s.es.length := by rw [hcoe]; omega
  have hco1 : (f p).commit ≤ co := by rw [hcoe]; omega
  have hfl1 : (f p).floor ≤ fl := by rw [hfle]; omega
  have hflc : fl ≤ co := by rw [hfle]; omega
  have hlens : ∀ i, i < n → ((up f p S i).es.length : Int) = if i = p then (s.es.length : Int) else (f i).es.length := fun i hi => by
    by_cases e : i = p
    · rw [if_pos e, e, hUp, e5]
    · rw [if_neg e, hUo i e]
  have hcoms : ∀ i, i < n → (f i).commit ≤ (up f p S i).commit := fun i hi => by
    by_cases e : i = p
    · rw [e, hUp, e8]; exact hco1
    · rw [hUo i e]; exact Int.le_refl _
  have grow : Grow n p f (up f p S) := by
    refine ⟨fun i hi => ?_, hcoms, by rw [hUp, e9]; exact hfl1, fun j hj => by rw [hUp, e5]; exact hpre j hj⟩
    by_cases e : i = p
    · rw [e, hUp, e5]; exact hle
    · rw [hUo i e]; exact Nat.le_refl _
  refine ⟨⟨h1, hn7, h.pp, h.vv, fun i hi => ?_, fun i hi => ?_, fun i hi => ?_, fun i hi => ?_, by rw [hUp, e5]; exact hlen, fun i hi => ?_, fun i hi j hj => ?_, by rw [hUp, e5]; exact hent, by rw [hUp, e6]; exact hhl, by rw [hUp, e7]; exact d7, fun i hi => ?_, fun i hi => ?_, fun i hi => ?_, fun i hi => ?_, ?_, ?_, fun x hx => (h.msg x hx).grow hp grow⟩, grow⟩
  · by_cases e : i = p
    · rw [e, hUp]; exact e1
    · rw [hUo i e]; exact h.me i hi
  · by_cases e : i = p
    · rw [e, hUp]; exact e2
    · rw [hUo i e]; exact h.nn i hi
  · by_cases e : i = p
    · rw [e, hUp]; exact e3
    · rw [hUo i e]; exact h.vw i hi
  · by_cases e : i = p
    · rw [e, hUp]; exact e4
    · rw [hUo i e]; exact h.base i hi
  · rw [hUp, e5]
    by_cases e : i = p
    · rw [e, hUp, e5]; exact Nat.le_refl _
    · rw [hUo i e]; have := h.le i hi; omega
  · rw [hUp, e5]
    by_cases e : i = p
    · rw [e, hUp, e5]
    · rw [hUo i e] at hj ⊢
      rw [h.pre i hi j hj, hpre j (by have := h.le i hi; omega)]
  · by_cases e : i = p
    · rw [e, hUp, e8, e9, e5]; exact ⟨by omega, hflc, hcole⟩
    · rw [hUo i e]; exact h.fl0 i hi
  · rw [hUp, e8]
    by_cases e : i = p
    · rw [e, hUp, e8]; exact Int.le_refl _
    · rw [hUo i e]; have := h.cp i hi; omega
  · rw [hUp, e6, hlens i hi]; exact hhn i hi
  · rw [hUp, e7]; have := hdon i hi; have := hcoms i hi; omega
  · rw [hUp, e8]
    by_cases hc : k ≤ s.commit
    · have : co = (f p).commit := by rw [hcoe, ← hco]; omega
      rw [this]
      refine Nat.le_trans h.hav (count_mono n fun i hi hF => ?_)
      have := hlens i hi
      have hl2 := h.le p hp
      simp only [decide_eq_true_eq] at hF ⊢
      rw [this]
      split
      · rename_i e; rw [e] at hF; omega
      · exact hF
    · have : co = k := by rw [hcoe]; omega
      rw [this]
      refine Nat.le_trans hkc (count_mono n fun i hi hF => ?_)
      simp only [decide_eq_true_eq] at hF ⊢
      rw [hlens i hi]; exact hF
  · rw [hUp, e9]
    by_cases hc : min co d ≤ s.floor
    · have : fl = (f p).floor := by rw [hfle, ← hfl]; omega
      rw [this]
      refine Nat.le_trans h.dnn (count_mono n fun i hi hF => ?_)
      have := hcoms i hi
      simp only [decide_eq_true_eq] at hF ⊢
      omega
    · have hfd : fl ≤ kth n s.dones := by rw [← hd, hfle]; omega
      refine Nat.le_trans (kth_has h1 (by omega) hdon hfd) (count_mono n fun i hi hF => ?_)
      have := hcoms i hi
      simp only [decide_eq_true_eq] at hF ⊢
      omega
end
end SL
