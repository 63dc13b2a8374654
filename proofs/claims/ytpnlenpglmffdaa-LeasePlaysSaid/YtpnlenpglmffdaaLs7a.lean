/-
  Keys of a row of pairs.
-/
import Derived.Test.YtpnlenpglmffdaaLs6
set_option linter.unusedVariables false
set_option linter.unusedSimpArgs false
namespace SL
open Go Go.Proofs Go.RowKit

/-! keys of a row of pairs -/
theorem iup_mem (q v x : Int) (T : As2) : x ∈ (iup q v T).map (·.1) ↔ x = q ∨ x ∈ T.map (·.1) := by
  induction T with
  | nil => simp [iup]
  | cons p T ih =>
    simp only [iup]
    split
    · rename_i h; simp [h]
    · simp only [List.map_cons, List.mem_cons, ih]
      constructor
      · rintro (h | h | h)
        · exact .inr (.inl h)
        · exact .inl h
        · exact .inr (.inr h)
      · rintro (h | h | h)
        · exact .inr (.inl h)
        · exact .inl h
        · exact .inr (.inr h)
theorem iup_nodup {q v : Int} {T : As2} (h : (T.map (·.1)).Nodup) : ((iup q v T).map (·.1)).Nodup := by
  induction T with
  | nil => simp [iup]
  | cons p T ih =>
    simp only [iup]
    split
    · rename_i e; simpa [e] using h
    · rename_i e
      simp only [List.map_cons, List.nodup_cons] at h ⊢
      refine ⟨fun c => ?_, ih h.2⟩
      rcases (iup_mem q v p.1 T).1 c with c | c
      · exact e c
      · exact h.1 c
theorem iup_len (q v : Int) (T : As2) : (iup q v T).length ≤ T.length + 1 := by
  induction T with
  | nil => simp [iup]
  | cons p T ih =>
    simp only [iup]
    split
    · simp
    · simp; omega
theorem til_iup (q v x : Int) (T : As2) : til x (iup q v T) = if q = x then v else til x T := by
  unfold til; rw [lkp_iup]; split <;> rfl
theorem lkp_some_mem {q v : Int} {T : As2} (h : lkp q T = some v) : (q, v) ∈ T := by
  induction T with
  | nil => simp [lkp] at h
  | cons p T ih =>
    simp only [lkp] at h
    split at h
    · rename_i e
      obtain rfl : p.2 = v := by simpa using h
      subst e
      simp
    · exact List.mem_cons_of_mem _ (ih h)
theorem lkp_mem {q v : Int} {T : As2} (hn : (T.map (·.1)).Nodup) (h : (q, v) ∈ T) : lkp q T = some v := by
  induction T with
  | nil => simp at h
  | cons p T ih =>
    simp only [List.map_cons, List.nodup_cons] at hn
    rcases List.mem_cons.1 h with e | e
    · subst e; simp [lkp]
    · have : p.1 ≠ q := fun c => hn.1 (by rw [c]; exact List.mem_map.2 ⟨(q, v), e, rfl⟩)
      simp only [lkp, if_neg this]
      exact ih hn.2 e
theorem lkp_none {q : Int} {T : As2} : lkp q T = none ↔ q ∉ T.map (·.1) := by
  induction T with
  | nil => simp [lkp]
  | cons p T ih =>
    simp only [lkp]
    split
    · rename_i e; simp [e]
    · rename_i e
      rw [ih]
      simp only [List.map_cons, List.mem_cons, not_or]
      exact ⟨fun h => ⟨fun c => e c.symm, h⟩, fun h => h.2⟩
theorem isSome_mem {q : Int} {T : As2} : (lkp q T).isSome = decide (q ∈ T.map (·.1)) := by
  by_cases h : q ∈ T.map (·.1)
  · rw [decide_eq_true h]
    cases e : lkp q T with
    | none => exact absurd h (lkp_none.1 e)
    | some v => rfl
  · rw [decide_eq_false h, lkp_none.2 h]; rfl
theorem idl_keys (g : Int) (T : As2) (hn : (T.map (·.1)).Nodup) : (idl g T).map (·.1) = (T.map (·.1)).filter fun q => !decide (q = g) := by
  induction T with
  | nil => rfl
  | cons p T ih =>
    simp only [List.map_cons, List.nodup_cons] at hn
    simp only [idl]
    split
    · rename_i e
      have : (T.map (·.1)).filter (fun q => !decide (q = g)) = T.map (·.1) := by
        rw [List.filter_eq_self]
        intro q hq
        have : q ≠ g := fun c => hn.1 (by rw [e, ← c]; exact hq)
        simp [this]
      simp only [List.map_cons, List.filter_cons]
      rw [if_neg (by simp [e]), this]
    · rename_i e
      simp only [List.map_cons, List.filter_cons]
      rw [if_pos (by simp [e]), ih hn.2]
theorem lkp_idl (g x : Int) (T : As2) (hn : (T.map (·.1)).Nodup) : lkp x (idl g T) = if x = g then none else lkp x T := by
  induction T with
  | nil => simp [idl, lkp]
  | cons p T ih =>
    simp only [List.map_cons, List.nodup_cons] at hn
    simp only [idl]
    split
    · rename_i e
      by_cases h : x = g
      · rw [if_pos h]; exact lkp_none.2 (by rw [h, ← e]; exact hn.1)
      · rw [if_neg h]; simp only [lkp]; rw [if_neg (fun c => h (c.symm.trans e))]
    · rename_i e
      simp only [lkp]
      rw [ih hn.2]
      by_cases h : x = g
      · simp only [if_pos h]; rw [if_neg (fun c => e (c.trans h))]
      · simp only [if_neg h]
/-- without one client -/
def dropT (g : Int) (T : As2) : As2 := if (lkp g T).isSome then idl g T else T
theorem dropT_keys (g : Int) (T : As2) (hn : (T.map (·.1)).Nodup) : (dropT g T).map (·.1) = (T.map (·.1)).filter fun q => !decide (q = g) := by
  unfold dropT
  split
  · exact idl_keys g T hn
  · rename_i h
    rw [isSome_mem] at h
    have h' : g ∉ T.map (·.1) := by simpa using h
    symm
    rw [List.filter_eq_self]
    intro q hq
    have : q ≠ g := fun c => h' (by rw [← c]; exact hq)
    simp [this]
theorem lkp_dropT (g x : Int) (T : As2) (hn : (T.map (·.1)).Nodup) : lkp x (dropT g T) = if x = g then none else lkp x T := by
  unfold dropT
  split
  · exact lkp_idl g x T hn
  · rename_i h
    split
    · rename_i e; subst e; cases e : lkp x T <;> simp_all
    · rfl
end SL
