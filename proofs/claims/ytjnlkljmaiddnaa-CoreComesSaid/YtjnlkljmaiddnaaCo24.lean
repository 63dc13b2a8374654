/-
  Entries, beats, and what there is when nothing is on its way.
-/
import Derived.Test.YtjnlkljmaiddnaaCo23
set_option linter.unusedVariables false
set_option linter.unusedSimpArgs false
set_option maxRecDepth 10000
namespace SL
open Go Go.Proofs Go.RowKit
section
variable {n v p : Nat} {f : Nat → Cs} {bag rest : List (Nat × Mg)} {t : Nat} {m : Mg}
theorem filter_one (n t fr : Nat) (ht : t < n) (htp : ¬ t = fr) (m : Mg) (h4 : m.kind = 4) : prTo t (toAll n fr m) = [m.op] := by
  induction n with
  | zero => omega
  | succ n ih =>
    by_cases e : n = fr
    · rw [toAll_succ_eq e]
      exact ih (by omega)
    · rw [toAll_succ_ne e, prTo_app]
      by_cases et : n = t
      · subst et
        have hno : prTo n (toAll n fr m) = [] := by
          unfold prTo
          rw [List.filter_eq_nil_iff.2]
          · rfl
          · intro x hx
            have := (mem_toAll hx).1
            simp
            intro _
            omega
        rw [hno]
        simp [prTo, h4]
      · rw [ih (by omega)]
        simp [prTo, et]
theorem prTo_none (t n fr : Nat) (m : Mg) (h4 : ¬ m.kind = 4) : prTo t (toAll n fr m) = [] := by
  unfold prTo
  rw [List.filter_eq_nil_iff.2]
  · rfl
  · intro x hx
    rw [(mem_toAll hx).2.2]
    simp [h4]
theorem prop_h (h : GInv n v p f bag) (hH : HInv n p f bag) (hl : (f p).es.length < 64) (e : En) : HInv n p (propR n p f bag e).1 (propR n p f bag e).2 := by
  have hp := h.pn
  have hn7 := h.n7
  have hl7 := h.has7
  have hd7 := h.don7
  unfold propR
  rw [if_pos hl]
  have hop : (f p).op = (f p).es.length := op_len (h.base p hp)
  have hs : ∀ i, i < n → nat_ (addE (f p) e).dones i ≤ (addE (f p) e).es.length / 8 * 8 := fun i hi => by
    have hii := hH.dx i hi
    rw [addE_len]
    show nat_ (f p).dones i ≤ _
    omega
  obtain ⟨g1, g2, g3, g4, g5⟩ := primary_goes h hH (s := addE (f p) e) (h.me p hp) (h.nn p hp) (h.base p hp) hl7 hd7 rfl (by rw [addE_len]; omega) hs
  have e1 : (addE (f p) e).es.length = (f p).es.length + 1 := addE_len _ _
  rw [e1] at g1 g5
  have hhas : ∀ i, ¬ i = p → nat_ (goesR (addE (f p) e)).has i = nat_ (f p).has i := fun i hi => g2 i hi
  obtain ⟨S, hS⟩ : ∃ S, S = goesR (addE (f p) e) := ⟨_, rfl⟩
  have hSe : S.es.length = (f p).es.length + 1 := by rw [hS]; exact e1
  have hSd : S.dones = (f p).dones := by rw [hS]; rfl
  rw [← hS] at g1 g3 g4 g5 hhas ⊢
  dsimp only
  have hU : up f p S p = S := up_same f p S
  have hUo : ∀ i, ¬ i = p → up f p S i = f i := fun i hi => up_other hi
  refine ⟨fun i hi hip => ?_, fun i hi hip => ?_, by rw [hU, hSe]; exact g1, by rw [hU]; exact g3, by rw [hU]; exact g4, fun i hi => by rw [hU, hSe, hSd]; have := hs i hi; rw [e1] at this; exact this, by rw [hU, hSe]; exact g5, fun x hx hx5 => ?_⟩
  · rw [hU, hSe, hUo i hip, prTo_app, hH.prep i hi hip, filter_one n i p hi hip _ rfl]
    have hle := h.le i hi
    rw [show (f p).es.length + 1 - (f i).es.length = ((f p).es.length - (f i).es.length) + 1 from by omega, opsFrom_last]
    congr 2
    rw [hop]
    show (((f p).es.length + 1 : Nat) : Int) = _
    congr 1
    omega
  · rw [hU, hUo i hip, hhas i hip]
    rcases hH.ok i hi hip with ho | ⟨x, hx, x5, xf, xo⟩
    · exact .inl ho
    · exact .inr ⟨x, List.mem_append_left _ hx, x5, xf, xo⟩
  · rw [hU, hSe]
    rcases List.mem_append.1 hx with hx | hx
    · have := hH.mx x hx hx5; omega
    · rw [(mem_toAll hx).2.2] at hx5; simp at hx5
theorem beat_h (h : GInv n v p f bag) (hH : HInv n p f bag) : HInv n p (beatG n p f bag).1 (beatG n p f bag).2 ∧
    (beatG n p f bag).1 p = goesR (beatR (f p) ((f p).commit / 8 * 8)) := by
  have hp := h.pn
  have hn7 := h.n7
  have hl7 := h.has7
  have hd7 := h.don7
  have hf0 := h.fl0 p hp
  unfold beatG
  have hs : ∀ i, i < n → nat_ (beatR (f p) ((f p).commit / 8 * 8)).dones i ≤ (beatR (f p) ((f p).commit / 8 * 8)).es.length / 8 * 8 := fun i hi => by
    have hii := hH.dx i hi
    show nat_ ((f p).dones.set (f p).me (max (nat_ (f p).dones (f p).me) ((f p).commit / 8 * 8))) i ≤ ((f p).es.length : Int) / 8 * 8
    rw [h.me p hp, nat_set_of (by omega)]
    split
    · rename_i ei; subst ei; omega
    · exact hii
  obtain ⟨g1, g2, g3, g4, g5⟩ := primary_goes h hH (s := beatR (f p) ((f p).commit / 8 * 8)) (h.me p hp) (h.nn p hp) (h.base p hp) hl7 (by simp [beatR, hd7]) rfl (Nat.le_refl _) hs
  have hhas : ∀ i, ¬ i = p → nat_ (goesR (beatR (f p) ((f p).commit / 8 * 8))).has i = nat_ (f p).has i := fun i hi => g2 i hi
  obtain ⟨S, hS⟩ : ∃ S, S = goesR (beatR (f p) ((f p).commit / 8 * 8)) := ⟨_, rfl⟩
  have hSe : S.es = (f p).es := by rw [hS]; rfl
  have hSd : S.dones = (beatR (f p) ((f p).commit / 8 * 8)).dones := by rw [hS]; rfl
  have e1 : (beatR (f p) ((f p).commit / 8 * 8)).es = (f p).es := rfl
  rw [e1] at g1 g5 hs
  rw [← hS] at g1 g3 g4 g5 hhas ⊢
  dsimp only
  have hU : up f p S p = S := up_same f p S
  have hUo : ∀ i, ¬ i = p → up f p S i = f i := fun i hi => up_other hi
  refine ⟨⟨fun i hi hip => ?_, fun i hi hip => ?_, by rw [hU, hSe]; exact g1, by rw [hU]; exact g3, by rw [hU]; exact g4, fun i hi => by rw [hU, hSe, hSd]; exact hs i hi, by rw [hU, hSe]; exact g5, fun x hx hx5 => ?_⟩, hU⟩
  · rw [hU, hSe, hUo i hip, prTo_app, hH.prep i hi hip, prTo_none _ _ _ _ (by simp), List.append_nil]
  · rw [hU, hUo i hip, hhas i hip]
    rcases hH.ok i hi hip with ho | ⟨x, hx, x5, xf, xo⟩
    · exact .inl ho
    · exact .inr ⟨x, List.mem_append_left _ hx, x5, xf, xo⟩
  · rw [hU, hSe]
    rcases List.mem_append.1 hx with hx | hx
    · exact hH.mx x hx hx5
    · rw [(mem_toAll hx).2.2] at hx5; simp at hx5
theorem begin_h (n v : Nat) (h1 : 1 ≤ n) (h7 : n ≤ 7) : HInv n (v % n) (fun j => c0 j n v) [] := by
  have hz : ∀ i, nat_ z7 i = 0 := fun i => by
    unfold nat_ z7
    match i with
    | 0 | 1 | 2 | 3 | 4 | 5 | 6 => rfl
    | i + 7 => simp
  have hk : kth n z7 ≤ 0 := by
    have h := kth_has (l := z7) (n := n) (F := fun _ => 0) h1 (by simp [z7]; omega) (fun i _ => by rw [hz]; exact Int.le_refl _) (Int.le_refl _)
    obtain ⟨i, hi, hF⟩ := count_pos (Nat.le_trans (by omega : 1 ≤ n / 2 + 1) h)
    simpa using hF
  refine ⟨fun t ht htp => by simp [prTo, opsFrom, c0], fun b hb hbp => .inl (by show nat_ z7 b = _; rw [hz]; simp [c0]), by show nat_ z7 _ = _; rw [hz]; simp [c0], hk, ?_, fun i hi => by show nat_ z7 i ≤ _; rw [hz]; simp [c0], by simp [c0], by simp⟩
  show min (0 : Int) (kth n z7) ≤ 0
  omega
/-- nothing is on its way -/
theorem quiet (h : GInv n v p f []) (hH : HInv n p f []) : (∀ t, t < n → (f t).es.length = (f p).es.length) ∧ (f p).commit = (f p).es.length ∧ ∀ b, b < n → nat_ (f p).has b = (f p).es.length := by
  have hp := h.pn
  have hn7 := h.n7
  have hl7 := h.has7
  have h1 := h.n1
  have ha : ∀ t, t < n → (f t).es.length = (f p).es.length := fun t ht => by
    by_cases e : t = p
    · rw [e]
    · have hpr := hH.prep t ht e
      have hle := h.le t ht
      cases hz : (f p).es.length - (f t).es.length with
      | zero => omega
      | succ k => rw [hz, opsFrom_succ] at hpr; simp [prTo] at hpr
  have hb : ∀ b, b < n → nat_ (f p).has b = (f p).es.length := fun b hb => by
    by_cases e : b = p
    · rw [e]; exact hH.own
    · rcases hH.ok b hb e with ho | ⟨x, hx, _⟩
      · rw [ho, ha b hb]
      · simp at hx
  refine ⟨ha, ?_, hb⟩
  have hk : ((f p).es.length : Int) ≤ kth n (f p).has := by
    rw [le_kth h1 (by omega), count_take (by omega), List.countP_eq_length.2 (fun i hi => by rw [hb i (List.mem_range.1 hi)]; simp)]
    simp
    omega
  have := hH.set
  have := (h.fl0 p hp).2.2
  omega
/-- behind a beat: who has committed all, or hears of it -/
structure AInv (n p : Nat) (f : Nat → Cs) (bag : List (Nat × Mg)) (N : Nat) : Prop where
  len : ∀ t, t < n → (f t).es.length = N
  com : (f p).commit = N
  all : ∀ t, t < n → ¬ t = p → (f t).commit = N ∨ ∃ x ∈ bag, x.2.kind = 6 ∧ x.1 = t ∧ (N : Int) ≤ x.2.commit
theorem come_len (h : GInv n v p f ((t, m) :: rest)) (hH : HInv n p f ((t, m) :: rest)) {N : Nat} (hl : ∀ t, t < n → (f t).es.length = N) : ∀ t', t' < n → ((comeR p f rest t m).1 t').es.length = N := by
  have hp := h.pn
  intro t' ht'
  rcases come_form h hH with ⟨k, h1, h2, h3, h4, h5, e⟩ | ⟨k, h1, h2, h5, e⟩ | ⟨k, rfl, b, h1, h2, h3, h4, h5, e⟩
  · have := hl t h1; have := hl p hp; omega
  · rw [e]
    show (up f t _ t').es.length = N
    by_cases et : t' = t
    · rw [et, up_same, learnR_es]; exact hl t h1
    · rw [up_other et]; exact hl t' ht'
  · rw [e]
    show (up f t _ t').es.length = N
    by_cases et : t' = t
    · rw [et, up_same]; exact hl t hp
    · rw [up_other et]; exact hl t' ht'
theorem come_a (h : GInv n v p f ((t, m) :: rest)) (hH : HInv n p f ((t, m) :: rest)) {N : Nat} (ha : AInv n p f ((t, m) :: rest) N) : AInv n p (comeR p f rest t m).1 (comeR p f rest t m).2 N := by
  have hp := h.pn
  have hlen := come_len h hH ha.len
  obtain ⟨hG2, hg⟩ := come_inv (h.less (bag' := rest) fun x hx => List.mem_cons_of_mem _ hx) (h.msg (t, m) (by simp))
  have hcom : ((comeR p f rest t m).1 p).commit = N := by
    have a := hg.com p hp
    have b := (hG2.fl0 p hp).2.2
    rw [hlen p hp] at b
    have := ha.com
    omega
  refine ⟨hlen, hcom, fun t' ht' htp => ?_⟩
  have hgc := hg.com t' ht'
  have hcp := hG2.cp t' ht'
  rcases ha.all t' ht' htp with hc | ⟨x, hx, x6, x1, xc⟩
  · left; omega
  · rcases List.mem_cons.1 hx with rfl | hx
    · simp only at x6 x1 xc
      subst x1
      rcases come_form h hH with ⟨k, h1, h2, h3, h4, h5, e⟩ | ⟨k, h1, h2, h5, e⟩ | ⟨k, h1, _⟩
      · omega
      · left
        rw [e]
        show (up f t _ t).commit = N
        rw [up_same]
        have hop : (f t).op = (f t).es.length := op_len (h.base t h1)
        have hl := ha.len t h1
        have hf0 := h.fl0 t h1
        show max (f t).commit (min m.commit (f t).op) = N
        omega
      · omega
    · right
      rcases come_form h hH with ⟨k, h1, h2, h3, h4, h5, e⟩ | ⟨k, h1, h2, h5, e⟩ | ⟨k, _, b, _, _, _, _, _, e⟩
      · rw [e]; exact ⟨x, List.mem_append_left _ hx, x6, x1, xc⟩
      · rw [e]; exact ⟨x, List.mem_append_left _ hx, x6, x1, xc⟩
      · rw [e]; exact ⟨x, hx, x6, x1, xc⟩
/-- behind one more beat: who has done what all have, or says so, or is asked -/
structure BInv (n p : Nat) (f : Nat → Cs) (bag : List (Nat × Mg)) (N : Nat) : Prop where
  len : ∀ t, t < n → (f t).es.length = N
  com : ∀ t, t < n → (f t).commit = N
  own : (N : Int) / 8 * 8 ≤ nat_ (f p).dones p
  all : ∀ t, t < n → ¬ t = p → (N : Int) / 8 * 8 ≤ nat_ (f p).dones t ∨ (∃ x ∈ bag, x.2.kind = 5 ∧ x.2.from_ = (t : Int) ∧ (N : Int) / 8 * 8 ≤ x.2.done) ∨ ∃ x ∈ bag, x.2.kind = 6 ∧ x.1 = t
theorem come_b (h : GInv n v p f ((t, m) :: rest)) (hH : HInv n p f ((t, m) :: rest)) {N : Nat} (hb : BInv n p f ((t, m) :: rest) N) : BInv n p (comeR p f rest t m).1 (comeR p f rest t m).2 N := by
  have hp := h.pn
  have hn7 := h.n7
  have hd7 := h.don7
  have hlen := come_len h hH hb.len
  obtain ⟨hG2, hg⟩ := come_inv (h.less (bag' := rest) fun x hx => List.mem_cons_of_mem _ hx) (h.msg (t, m) (by simp))
  have hcom : ∀ t', t' < n → ((comeR p f rest t m).1 t').commit = N := fun t' ht' => by
    have a := hg.com t' ht'
    have b := (hG2.fl0 t' ht').2.2
    rw [hlen t' ht'] at b
    have := hb.com t' ht'
    omega
  rcases come_form h hH with ⟨k, h1, h2, h3, h4, h5, e⟩ | ⟨k, h1, h2, h5, e⟩ | ⟨k, rfl, b, h1, h2, h3, h4, h5, e⟩
  · have := hb.len t h1; have := hb.len p hp; omega
  · rw [e] at hlen hcom ⊢
    dsimp only at hlen hcom ⊢
    obtain ⟨S, hS⟩ : ∃ S, S = learnR (f t) m.commit m.floor := ⟨_, rfl⟩
    rw [← hS] at hlen hcom ⊢
    have hUp : up f t S p = f p := up_other (fun e => h2 e.symm)
    refine ⟨hlen, hcom, by rw [hUp]; exact hb.own, fun t' ht' htp => ?_⟩
    rw [hUp]
    rcases hb.all t' ht' htp with a | ⟨x, hx, x5, xf, xd⟩ | ⟨x, hx, x6, x1⟩
    · exact .inl a
    · rcases List.mem_cons.1 hx with rfl | hx
      · simp only at x5; omega
      · exact .inr (.inl ⟨x, List.mem_append_left _ hx, x5, xf, xd⟩)
    · rcases List.mem_cons.1 hx with rfl | hx
      · simp only at x1
        subst x1
        refine .inr (.inl ⟨_, List.mem_append_right _ (List.mem_singleton.2 rfl), rfl, rfl, ?_⟩)
        have := hb.com t ht'
        simp only
        omega
      · exact .inr (.inr ⟨x, List.mem_append_left _ hx, x6, x1⟩)
  · rw [e] at hlen hcom ⊢
    dsimp only at hlen hcom ⊢
    have hdn : ∀ i, nat_ (goesR (okR (f t) b m.op m.done)).dones i = if i = b then max (nat_ (f t).dones b) m.done else nat_ (f t).dones i := fun i => by
      show nat_ ((f t).dones.set b (max (nat_ (f t).dones b) m.done)) i = _
      rw [nat_set_of (by omega)]
    obtain ⟨S, hS⟩ : ∃ S, S = goesR (okR (f t) b m.op m.done) := ⟨_, rfl⟩
    rw [← hS] at hlen hcom hdn ⊢
    have hU : up f t S t = S := up_same f t S
    refine ⟨hlen, hcom, by rw [hU, hdn, if_neg (fun c => h3 c.symm)]; exact hb.own, fun t' ht' htp => ?_⟩
    rw [hU, hdn]
    rcases hb.all t' ht' htp with a | ⟨x, hx, x5, xf, xd⟩ | ⟨x, hx, x6, x1⟩
    · left
      split
      · rename_i et; subst et; omega
      · exact a
    · rcases List.mem_cons.1 hx with rfl | hx
      · simp only at xf xd
        have : t' = b := by omega
        left
        rw [if_pos this]
        omega
      · exact .inr (.inl ⟨x, hx, x5, xf, xd⟩)
    · rcases List.mem_cons.1 hx with rfl | hx
      · simp only at x6; omega
      · exact .inr (.inr ⟨x, hx, x6, x1⟩)
end
end SL
