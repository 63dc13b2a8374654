/-
  The document's leases: rows by rising clients; the plain law.
-/
import Derived.Test.YtpnlenpglmffdaaLs13
set_option linter.unusedVariables false
set_option linter.unusedSimpArgs false
set_option maxRecDepth 10000
namespace SL
open Go Go.Proofs Go.RowKit

theorem snoc_ind {α : Type} {P : List α → Prop} (h0 : P []) (h1 : ∀ l x, P l → P (l ++ [x])) (l : List α) : P l := by
  rw [← List.reverse_reverse l]
  induction l.reverse with
  | nil => exact h0
  | cons x l ih => rw [List.reverse_cons]; exact h1 _ _ ih
theorem lkp_append (x : Int) (A B : As2) : lkp x (A ++ B) = (lkp x A).or (lkp x B) := by
  induction A with
  | nil => rfl
  | cons p A ih =>
    simp only [List.cons_append, lkp, ih]
    split <;> simp
theorem lkp_filter (f : Int → Bool) (x : Int) (A : As2) : lkp x (A.filter fun p => f p.1) = if f x then lkp x A else none := by
  induction A with
  | nil => simp [lkp]
  | cons p A ih =>
    simp only [List.filter_cons]
    by_cases e : p.1 = x
    · by_cases hf : f p.1 = true
      · rw [if_pos hf]; simp only [lkp, if_pos e]; rw [if_pos (by rw [← e]; exact hf)]
      · rw [if_neg hf, ih]; rw [if_neg (by rw [← e]; exact hf), if_neg (by rw [← e]; exact hf)]
    · by_cases hf : f p.1 = true
      · rw [if_pos hf]; simp only [lkp, if_neg e, ih]
      · rw [if_neg hf, ih]; simp only [lkp, if_neg e]
/-- the row says what the leases say, by rising clients -/
structure RelL (T R : As2) : Prop where
  nd : (T.map (·.1)).Nodup
  st : (R.map (·.1)).Pairwise (· < ·)
  eq : ∀ q, lkp q R = lkp q T
theorem RelL.nil : RelL [] [] := ⟨by simp, by simp, fun _ => rfl⟩
section
variable {T R : As2}
theorem RelL.ndR (h : RelL T R) : (R.map (·.1)).Nodup := h.st.imp fun h => Int.ne_of_lt h
theorem RelL.mem (h : RelL T R) (q : Int) : q ∈ R.map (·.1) ↔ q ∈ T.map (·.1) := by
  have h1 := lkp_none (q := q) (T := R)
  have h2 := lkp_none (q := q) (T := T)
  rw [h.eq] at h1
  have h3 := h1.symm.trans h2
  exact ⟨fun a => Classical.byContradiction fun b => h3.2 b a, fun a => Classical.byContradiction fun b => h3.1 b a⟩
theorem RelL.perm (h : RelL T R) : (T.map (·.1)).Perm (R.map (·.1)) := perm_nodup h.nd h.ndR fun q => (h.mem q).symm
theorem RelL.srtR (h : RelL T R) : srt (T.map (·.1)) = R.map (·.1) := sorted_unique (srt_sorted _) (h.st.imp fun h => Int.le_of_lt h) ((srt_perm _).trans h.perm)
theorem RelL.len (h : RelL T R) : T.length = R.length := by have := h.perm.length_eq; simpa using this
theorem RelL.tilR (h : RelL T R) (q : Int) : til q T = til q R := by unfold SL.til; rw [h.eq]
theorem RelL.at_ (h : RelL T R) {p : Int × Int} (hp : p ∈ R) : SL.til p.1 T = p.2 := by
  rw [h.tilR]; unfold SL.til; rw [lkp_mem h.ndR (v := p.2) hp]; rfl
theorem RelL.cells (h : RelL T R) : lsCells T (srt (T.map (·.1))) = prC R := by
  rw [h.srtR, lsCells_pr, List.map_map]
  congr 1
  conv => rhs; rw [← List.map_id R]
  exact List.map_congr_left fun p hp => by show (p.1, SL.til p.1 T) = p; rw [h.at_ hp]
theorem RelL.sel (h : RelL T R) (live : Bool) (now : Int) : selC T live now (srt (T.map (·.1))) = (R.filter fun p => decide (now < p.2) == live).map (·.1) := by
  rw [h.srtR]; unfold selC
  rw [List.filter_map]
  congr 1
  exact List.filter_congr fun p hp => by show (decide (now < SL.til p.1 T) == live) = _; rw [h.at_ hp]
theorem RelL.someR (h : RelL T R) (q : Int) : (lkp q T).isSome = (lkp q R).isSome := by rw [h.eq]
end
/-! a lease in its place -/
def layStep (a : Int × Int) (s : As2 × Bool) (x : Int × Int) : As2 × Bool := if x.1 = a.1 then s else if s.2 = false ∧ a.1 < x.1 then (s.1 ++ [a] ++ [x], true) else (s.1 ++ [x], s.2)
def layS (a : Int × Int) (R : As2) : As2 × Bool := R.foldl (layStep a) ([], false)
def layR (a : Int × Int) (R : As2) : As2 := if (layS a R).2 then (layS a R).1 else (layS a R).1 ++ [a]
theorem layS_take {R : As2} {i : Nat} {x : Int × Int} (h : R[i]? = some x) (a : Int × Int) : layS a (R.take (i + 1)) = layStep a (layS a (R.take i)) x := by
  unfold layS
  rw [List.take_add_one, h, List.foldl_append]; rfl
theorem layS_len (a : Int × Int) (R : As2) : (layS a R).1.length ≤ R.length + 1 := by
  have : ∀ R : As2, (layS a R).1.length ≤ R.length + (if (layS a R).2 then 1 else 0) := by
    intro R
    induction R using snoc_ind with
    | h0 => simp [layS]
    | h1 R x ih =>
      have e : layS a (R ++ [x]) = layStep a (layS a R) x := by unfold layS; rw [List.foldl_append]; rfl
      rw [e]; unfold layStep
      split
      · simp only [List.length_append, List.length_cons, List.length_nil]; omega
      · split
        · rename_i h; rw [h.1] at ih; simp at ih ⊢; omega
        · simp only [List.length_append, List.length_cons, List.length_nil]; omega
  have := this R
  split at this <;> omega
def insR (a : Int × Int) (R : As2) : As2 := R.filter (fun p => decide (p.1 < a.1)) ++ [a] ++ R.filter (fun p => decide (a.1 < p.1))
theorem layR_ins (a : Int × Int) (R : As2) (hs : (R.map (·.1)).Pairwise (· < ·)) : layR a R = insR a R := by
  have key : ∀ R : As2, (R.map (·.1)).Pairwise (· < ·) → layS a R = if R.filter (fun p => decide (a.1 < p.1)) = [] then (R.filter (fun p => decide (p.1 < a.1)), false) else (insR a R, true) := by
    intro R
    induction R using snoc_ind with
    | h0 => intro _; simp [layS]
    | h1 R x ih =>
      intro h
      rw [List.map_append, List.pairwise_append] at h
      have ih := ih h.1
      have hx : ∀ p ∈ R, p.1 < x.1 := fun p hp => h.2.2 p.1 (List.mem_map.2 ⟨p, hp, rfl⟩) x.1 (by simp)
      have e : layS a (R ++ [x]) = layStep a (layS a R) x := by unfold layS; rw [List.foldl_append]; rfl
      rw [e]
      have hgt : x.1 ≤ a.1 → R.filter (fun p => decide (a.1 < p.1)) = [] := fun hxa => List.filter_eq_nil_iff.2 fun p hp => by have := hx p hp; simp; omega
      unfold layStep
      by_cases h1 : x.1 = a.1
      · rw [if_pos h1, ih, if_pos (hgt (by omega)), if_pos (by rw [List.filter_append, hgt (by omega)]; simp [h1])]
        simp [List.filter_append, h1]
      · rw [if_neg h1]
        by_cases h2 : a.1 < x.1
        · have hne : ¬ (R ++ [x]).filter (fun p => decide (a.1 < p.1)) = [] := by rw [List.filter_append]; intro c; have := (List.append_eq_nil_iff.1 c).2; simp [h2] at this
          rw [if_neg hne]
          by_cases h3 : R.filter (fun p => decide (a.1 < p.1)) = []
          · rw [if_pos h3] at ih
            rw [ih, if_pos ⟨rfl, h2⟩]
            unfold insR
            rw [List.filter_append, List.filter_append, h3]
            have : ¬ x.1 < a.1 := by omega
            simp [h2, this]
          · rw [if_neg h3] at ih
            rw [ih, if_neg (by simp)]
            unfold insR
            rw [List.filter_append, List.filter_append]
            have : ¬ x.1 < a.1 := by omega
            simp [h2, this]
        · have h3 : R.filter (fun p => decide (a.1 < p.1)) = [] := hgt (by omega)
          rw [if_pos h3] at ih
          rw [ih, if_neg (by simp [h2]), if_pos (by rw [List.filter_append, h3]; simp [h2]), List.filter_append]
          have : x.1 < a.1 := by omega
          simp [this]
  unfold layR
  rw [key R hs]
  split
  · rename_i h; simp [insR, h]
  · rfl
theorem lkp_ins (a : Int × Int) (R : As2) (x : Int) : lkp x (insR a R) = if a.1 = x then some a.2 else lkp x R := by
  unfold insR
  rw [lkp_append, lkp_append, lkp_filter (fun k => decide (k < a.1)), lkp_filter (fun k => decide (a.1 < k))]
  simp only [lkp]
  by_cases e : a.1 = x
  · subst e; simp
  · rw [if_neg e]
    by_cases h : x < a.1
    · have : ¬ a.1 < x := by omega
      simp [h, this, e]
    · have : a.1 < x := by omega
      simp [h, this, e]
theorem ins_strict (a : Int × Int) {R : As2} (hs : (R.map (·.1)).Pairwise (· < ·)) : ((insR a R).map (·.1)).Pairwise (· < ·) := by
  unfold insR
  rw [List.map_append, List.map_append, List.pairwise_append, List.pairwise_append]
  have hf : ∀ f : Int × Int → Bool, ((R.filter f).map (·.1)).Pairwise (· < ·) := fun f => hs.sublist (List.Sublist.map _ List.filter_sublist)
  refine ⟨⟨hf _, by simp, ?_⟩, hf _, ?_⟩
  · intro x hx y hy
    obtain ⟨p, hp, rfl⟩ := List.mem_map.1 hx
    have := (List.mem_filter.1 hp).2
    simp at this hy
    omega
  · intro x hx y hy
    obtain ⟨p, hp, rfl⟩ := List.mem_map.1 hy
    have h2 := (List.mem_filter.1 hp).2
    simp at h2
    rcases List.mem_append.1 hx with hx | hx
    · obtain ⟨p', hp', rfl⟩ := List.mem_map.1 hx
      have h1 := (List.mem_filter.1 hp').2
      simp at h1
      omega
    · simp at hx; omega
theorem RelL.lay {T R : As2} (h : RelL T R) (q v : Int) : RelL (iup q v T) (layR (q, v) R) := by
  rw [layR_ins _ _ h.st]
  exact ⟨iup_nodup h.nd, ins_strict _ h.st, fun x => by rw [lkp_ins, lkp_iup, h.eq]⟩
/-! a client's place -/
def kx (q : Int) (R : As2) : Nat := R.findIdx fun p => decide (p.1 = q)
theorem kx_le (q : Int) (R : As2) : kx q R ≤ R.length := List.findIdx_le_length
theorem kx_no {q : Int} {R : As2} {j : Nat} {p : Int × Int} (h : j < kx q R) (hp : R[j]? = some p) : ¬ p.1 = q := by
  have hlt : j < R.length := Nat.lt_of_lt_of_le h (kx_le q R)
  have := List.not_of_lt_findIdx h
  rw [List.getElem?_eq_getElem hlt] at hp
  cases hp
  simpa using this
theorem kx_yes {q : Int} {R : As2} (h : kx q R < R.length) : ∃ v, R[kx q R]? = some (q, v) := by
  have := List.findIdx_getElem (w := h)
  obtain ⟨p, hp⟩ : ∃ p, R[kx q R]? = some p := ⟨_, List.getElem?_eq_getElem h⟩
  have e1 : R[R.findIdx fun p => decide (p.1 = q)] = p := by
    have := List.getElem?_eq_getElem h
    rw [hp] at this
    exact (Option.some.inj this).symm
  rw [e1] at this
  obtain ⟨a, v⟩ := p
  obtain rfl : a = q := by simpa using this
  exact ⟨v, hp⟩
theorem kx_mem {q : Int} {R : As2} : kx q R < R.length ↔ (lkp q R).isSome = true := by
  rw [isSome_mem, decide_eq_true_eq]
  constructor
  · intro h
    obtain ⟨v, hv⟩ := kx_yes h
    exact List.mem_map.2 ⟨(q, v), List.mem_of_getElem? hv, rfl⟩
  · intro h
    obtain ⟨p, hp, rfl⟩ := List.mem_map.1 h
    exact List.findIdx_lt_length.2 ⟨p, hp, by simp⟩
theorem kx_til {q : Int} {R : As2} (hn : (R.map (·.1)).Nodup) {v : Int} (hv : R[kx q R]? = some (q, v)) : til q R = v := by
  unfold til; rw [lkp_mem hn (List.mem_of_getElem? hv)]; rfl
/-- without a client -/
def outR (q : Int) (R : As2) : As2 := R.take (kx q R) ++ R.drop (kx q R + 1)
theorem RelL.out {T R : As2} (h : RelL T R) {q : Int} (hq : kx q R < R.length) : RelL (idl q T) (outR q R) := by
  obtain ⟨v, hv⟩ := kx_yes hq
  have e : R = R.take (kx q R) ++ (q, v) :: R.drop (kx q R + 1) := by
    conv => lhs; rw [← List.take_append_drop (kx q R) R, List.drop_eq_getElem_cons hq]
    rw [List.getElem?_eq_getElem hq] at hv
    rw [Option.some.inj hv]
  have hnd := h.ndR
  refine ⟨by rw [idl_keys q T h.nd]; exact h.nd.filter _, h.st.sublist ?_, fun x => ?_⟩
  · refine List.Sublist.map _ ?_
    conv => rhs; rw [e]
    exact List.Sublist.append (List.Sublist.refl _) (List.sublist_cons_self _ _)
  · rw [lkp_idl q x T h.nd, ← h.eq x]
    unfold outR
    generalize hA : R.take (kx q R) = A at e ⊢
    generalize hB : R.drop (kx q R + 1) = B at e ⊢
    rw [e] at hnd ⊢
    rw [lkp_append, lkp_append]
    simp only [lkp]
    rw [List.map_append, List.nodup_append] at hnd
    by_cases hx : x = q
    · subst hx
      rw [if_pos rfl]
      have h1 : lkp x A = none := lkp_none.2 fun c => hnd.2.2 x c x (by simp) rfl
      have h2 : lkp x B = none := lkp_none.2 (by have := hnd.2.1; simp only [List.map_cons, List.nodup_cons] at this; exact this.1)
      rw [h1, h2]; rfl
    · rw [if_neg hx, if_neg (fun c => hx c.symm)]
theorem idl_absent {q : Int} {T : As2} (h : q ∉ T.map (·.1)) : idl q T = T := by
  induction T with
  | nil => rfl
  | cons p T ih =>
    simp only [List.map_cons, List.mem_cons, not_or] at h
    simp only [idl, if_neg (fun c => h.1 (Eq.symm c)), ih h.2]
def drpL (q : Int) (R : As2) : As2 := if kx q R < R.length then outR q R else R
theorem RelL.drp {T R : As2} (h : RelL T R) (q : Int) : RelL (idl q T) (drpL q R) := by
  unfold drpL
  split
  · rename_i hq; exact h.out hq
  · rename_i hq
    have : q ∉ T.map (·.1) := fun c => hq (kx_mem.2 (by rw [← h.someR, isSome_mem]; simpa using c))
    rw [idl_absent this]; exact h
def drpLs (ks : List Int) (R : As2) : As2 := ks.foldl (fun R q => drpL q R) R
theorem RelL.drps {T R : As2} (h : RelL T R) (ks : List Int) : RelL (idls ks T) (drpLs ks R) := by
  induction ks generalizing T R with
  | nil => exact h
  | cons k ks ih => exact ih (h.drp k)
theorem drpLs_snoc (ks : List Int) (q : Int) (R : As2) : drpLs (ks ++ [q]) R = drpL q (drpLs ks R) := by simp [drpLs]
theorem outR_len {q : Int} {R : As2} (h : kx q R < R.length) : (outR q R).length = R.length - 1 := by unfold outR; simp; omega
theorem drpL_len (q : Int) (R : As2) : (drpL q R).length ≤ R.length := by
  unfold drpL; split
  · rename_i h; rw [outR_len h]; omega
  · exact Nat.le_refl _
theorem drpLs_len (ks : List Int) (R : As2) : (drpLs ks R).length ≤ R.length := by
  induction ks generalizing R with
  | nil => exact Nat.le_refl _
  | cons k ks ih => exact Nat.le_trans (ih _) (drpL_len _ _)
def selL (live : Bool) (now : Int) (R : As2) : List Int := (R.filter fun p => decide (now < p.2) == live).map (·.1)
theorem selL_take {R : As2} {i : Nat} {p : Int × Int} (h : R[i]? = some p) (live : Bool) (now : Int) : selL live now (R.take (i + 1)) = selL live now (R.take i) ++ if decide (now < p.2) = live then [p.1] else [] := by
  unfold selL
  rw [List.take_add_one, h, List.filter_append, List.map_append]
  congr 1
  simp only [Option.toList, List.filter_cons, List.filter_nil]
  by_cases e : decide (now < p.2) = live
  · rw [if_pos e, if_pos (by simp [e])]; rfl
  · rw [if_neg e, if_neg (by simpa using e)]; rfl
theorem selL_len (live : Bool) (now : Int) (R : As2) : (selL live now R).length ≤ R.length := by unfold selL; rw [List.length_map]; exact List.length_filter_le _ _
end SL
