/-
  LeaseBack's plain law: rows of calls of Set, turned and not; one lease dropped.
-/
import Derived.Test.YtpnlenpglmffdaaLs6
set_option linter.unusedVariables false
set_option linter.unusedSimpArgs false
namespace SL
open Go Go.Proofs Go.RowKit

/-! keys of a row of pairs -/
theorem iup_mem (q v x : Int) (T : As2) : x ∈ (iup q v T).map (·.1) ↔ x = q ∨ x ∈ T.map (·.1) := by
  induction T with
  | nil => simp [iup]
  | cons p T ih =>
    simp only [iup]
    split
    · rename_i h; simp [h]
    · simp only [List.map_cons, List.mem_cons, ih]
      constructor
      · rintro (h | h | h)
        · exact .inr (.inl h)
        · exact .inl h
        · exact .inr (.inr h)
      · rintro (h | h | h)
        · exact .inr (.inl h)
        · exact .inl h
        · exact .inr (.inr h)
theorem iup_nodup {q v : Int} {T : As2} (h : (T.map (·.1)).Nodup) : ((iup q v T).map (·.1)).Nodup := by
  induction T with
  | nil => simp [iup]
  | cons p T ih =>
    simp only [iup]
    split
    · rename_i e; simpa [e] using h
    · rename_i e
      simp only [List.map_cons, List.nodup_cons] at h ⊢
      refine ⟨fun c => ?_, ih h.2⟩
      rcases (iup_mem q v p.1 T).1 c with c | c
      · exact e c
      · exact h.1 c
theorem iup_len (q v : Int) (T : As2) : (iup q v T).length ≤ T.length + 1 := by
  induction T with
  | nil => simp [iup]
  | cons p T ih =>
    simp only [iup]
    split
    · simp
    · simp; omega
theorem til_iup (q v x : Int) (T : As2) : til x (iup q v T) = if q = x then v else til x T := by
  unfold til; rw [lkp_iup]; split <;> rfl
theorem lkp_some_mem {q v : Int} {T : As2} (h : lkp q T = some v) : (q, v) ∈ T := by
  induction T with
  | nil => simp [lkp] at h
  | cons p T ih =>
    simp only [lkp] at h
    split at h
    · rename_i e
      obtain rfl : p.2 = v := by simpa using h
      subst e
      simp
    · exact List.mem_cons_of_mem _ (ih h)
theorem lkp_mem {q v : Int} {T : As2} (hn : (T.map (·.1)).Nodup) (h : (q, v) ∈ T) : lkp q T = some v := by
  induction T with
  | nil => simp at h
  | cons p T ih =>
    simp only [List.map_cons, List.nodup_cons] at hn
    rcases List.mem_cons.1 h with e | e
    · subst e; simp [lkp]
    · have : p.1 ≠ q := fun c => hn.1 (by rw [c]; exact List.mem_map.2 ⟨(q, v), e, rfl⟩)
      simp only [lkp, if_neg this]
      exact ih hn.2 e
theorem lkp_none {q : Int} {T : As2} : lkp q T = none ↔ q ∉ T.map (·.1) := by
  induction T with
  | nil => simp [lkp]
  | cons p T ih =>
    simp only [lkp]
    split
    · rename_i e; simp [e]
    · rename_i e
      rw [ih]
      simp only [List.map_cons, List.mem_cons, not_or]
      exact ⟨fun h => ⟨fun c => e c.symm, h⟩, fun h => h.2⟩
theorem isSome_mem {q : Int} {T : As2} : (lkp q T).isSome = decide (q ∈ T.map (·.1)) := by
  by_cases h : q ∈ T.map (·.1)
  · rw [decide_eq_true h]
    cases e : lkp q T with
    | none => exact absurd h (lkp_none.1 e)
    | some v => rfl
  · rw [decide_eq_false h, lkp_none.2 h]; rfl
theorem idl_keys (g : Int) (T : As2) (hn : (T.map (·.1)).Nodup) : (idl g T).map (·.1) = (T.map (·.1)).filter fun q => !decide (q = g) := by
  induction T with
  | nil => rfl
  | cons p T ih =>
    simp only [List.map_cons, List.nodup_cons] at hn
    simp only [idl]
    split
    · rename_i e
      have : (T.map (·.1)).filter (fun q => !decide (q = g)) = T.map (·.1) := by
        rw [List.filter_eq_self]
        intro q hq
        have : q ≠ g := fun c => hn.1 (by rw [e, ← c]; exact hq)
        simp [this]
      simp only [List.map_cons, List.filter_cons]
      rw [if_neg (by simp [e]), this]
    · rename_i e
      simp only [List.map_cons, List.filter_cons]
      rw [if_pos (by simp [e]), ih hn.2]
theorem lkp_idl (g x : Int) (T : As2) (hn : (T.map (·.1)).Nodup) : lkp x (idl g T) = if x = g then none else lkp x T := by
  induction T with
  | nil => simp [idl, lkp]
  | cons p T ih =>
    simp only [List.map_cons, List.nodup_cons] at hn
    simp only [idl]
    split
    · rename_i e
      by_cases h : x = g
      · rw [if_pos h]; exact lkp_none.2 (by rw [h, ← e]; exact hn.1)
      · rw [if_neg h]; simp only [lkp]; rw [if_neg (fun c => h (c.symm.trans e))]
    · rename_i e
      simp only [lkp]
      rw [ih hn.2]
      by_cases h : x = g
      · simp only [if_pos h]; rw [if_neg (fun c => e (c.trans h))]
      · simp only [if_neg h]
/-- without one client -/
def dropT (g : Int) (T : As2) : As2 := if (lkp g T).isSome then idl g T else T
theorem dropT_keys (g : Int) (T : As2) (hn : (T.map (·.1)).Nodup) : (dropT g T).map (·.1) = (T.map (·.1)).filter fun q => !decide (q = g) := by
  unfold dropT
  split
  · exact idl_keys g T hn
  · rename_i h
    rw [isSome_mem] at h
    have h' : g ∉ T.map (·.1) := by simpa using h
    symm
    rw [List.filter_eq_self]
    intro q hq
    have : q ≠ g := fun c => h' (by rw [← c]; exact hq)
    simp [this]
theorem lkp_dropT (g x : Int) (T : As2) (hn : (T.map (·.1)).Nodup) : lkp x (dropT g T) = if x = g then none else lkp x T := by
  unfold dropT
  split
  · exact lkp_idl g x T hn
  · rename_i h
    split
    · rename_i e; subst e; cases e : lkp x T <;> simp_all
    · rfl

/-! rows of calls of Set -/
def stp (T : As2) (p : Int × Int) : As2 := iup p.1 (max (til p.1 T) (p.2 + 64)) T
def sets (ps : As2) (T : As2) : As2 := ps.foldl stp T
theorem setE_ok {q now : Int} {T : As2} (h : now ≤ 1099511627776) (hT : T.length < 16) : setE q now T = 0 := by
  rw [setE, if_neg (by omega), if_neg (by rintro ⟨_, h⟩; omega)]
theorem setT_ok {q now : Int} {T : As2} (h : now ≤ 1099511627776) (hT : T.length < 16) : setT q now T = stp T (q, now) := by
  rw [setT, setE_ok h hT, if_pos rfl]; rfl
theorem sets_snoc (ps : As2) (p : Int × Int) (T : As2) : sets (ps ++ [p]) T = stp (sets ps T) p := by simp [sets]
theorem sets_len (ps T : As2) : (sets ps T).length ≤ T.length + ps.length := by
  induction ps generalizing T with
  | nil => simp [sets]
  | cons p ps ih =>
    have := ih (stp T p)
    have h2 : (stp T p).length ≤ T.length + 1 := iup_len _ _ _
    simp only [sets, List.foldl_cons, List.length_cons] at this ⊢
    omega
theorem sets_nodup {ps T : As2} (h : (T.map (·.1)).Nodup) : ((sets ps T).map (·.1)).Nodup := by
  induction ps generalizing T with
  | nil => exact h
  | cons p ps ih => exact ih (T := stp T p) (iup_nodup h)
theorem sets_mem (ps T : As2) (x : Int) : x ∈ (sets ps T).map (·.1) ↔ x ∈ ps.map (·.1) ∨ x ∈ T.map (·.1) := by
  induction ps generalizing T with
  | nil => simp [sets]
  | cons p ps ih =>
    have := ih (stp T p)
    simp only [sets, List.foldl_cons] at this ⊢
    rw [this]
    simp only [stp, iup_mem, List.map_cons, List.mem_cons]
    constructor
    · rintro (h | h | h)
      · exact .inl (.inr h)
      · exact .inl (.inl h)
      · exact .inr h
    · rintro ((h | h) | h)
      · exact .inr (.inl h)
      · exact .inl h
      · exact .inr (.inr h)
def mxs (x : Int) (m : Int) (p : Int × Int) : Int := if p.1 = x then max m (p.2 + 64) else m
theorem sets_til (ps T : As2) (x : Int) : til x (sets ps T) = ps.foldl (mxs x) (til x T) := by
  induction ps generalizing T with
  | nil => rfl
  | cons p ps ih =>
    have := ih (stp T p)
    simp only [sets, List.foldl_cons] at this ⊢
    rw [this]
    congr 1
    simp only [stp, til_iup, mxs]
    split
    · rename_i h; rw [h]
    · rfl
theorem sets_rev_til (ps : As2) (x : Int) : til x (sets ps.reverse []) = til x (sets ps []) := by
  rw [sets_til, sets_til]
  refine (List.reverse_perm ps).foldl_eq' (fun p _ q _ z => ?_) _
  simp only [mxs]
  split <;> split <;> omega
theorem sets_rev_keys (ps : As2) : srt ((sets ps.reverse []).map (·.1)) = srt ((sets ps []).map (·.1)) := by
  refine srt_congr (perm_nodup (sets_nodup (by simp)) (sets_nodup (by simp)) fun x => ?_)
  rw [sets_mem, sets_mem]
  simp
theorem sets_bounds {ps T : As2} (hp : ∀ p ∈ ps, 0 ≤ p.2 ∧ p.2 ≤ 999) {x : Int} (h : x ∈ ps.map (·.1)) (h0 : 0 ≤ til x T ∧ til x T ≤ 1063) : 64 ≤ til x (sets ps T) ∧ til x (sets ps T) ≤ 1063 := by
  rw [sets_til]
  have key : ∀ (ps : As2) (m : Int), (∀ p ∈ ps, 0 ≤ p.2 ∧ p.2 ≤ 999) → 0 ≤ m → m ≤ 1063 → m ≤ ps.foldl (mxs x) m ∧ ps.foldl (mxs x) m ≤ 1063 := by
    intro ps
    induction ps with
    | nil => intro m _ h0 h1; exact ⟨Int.le_refl _, h1⟩
    | cons p ps ih =>
      intro m hp h0 h1
      have hp0 := hp p (by simp)
      have hm : m ≤ mxs x m p ∧ mxs x m p ≤ 1063 := by unfold mxs; split <;> omega
      have := ih (mxs x m p) (fun q hq => hp q (by simp [hq])) (by omega) hm.2
      simp only [List.foldl_cons]
      omega
  obtain ⟨p, hp1, rfl⟩ := List.mem_map.1 h
  obtain ⟨l, r, rfl⟩ := List.append_of_mem hp1
  rw [List.foldl_append, List.foldl_cons]
  have h1 := key l (til p.1 T) (fun q hq => hp q (by simp [hq])) h0.1 h0.2
  have hp0 := hp p (by simp)
  have hm : 64 ≤ mxs p.1 (l.foldl (mxs p.1) (til p.1 T)) p ∧ mxs p.1 (l.foldl (mxs p.1) (til p.1 T)) p ≤ 1063 := by simp only [mxs, if_pos]; omega
  have h2 := key r _ (fun q hq => hp q (by simp [hq])) (by omega : (0:Int) ≤ mxs p.1 (l.foldl (mxs p.1) (til p.1 T)) p) hm.2
  omega

/-! all leases, by rising clients, and turned -/
def prs (T : As2) (ks : List Int) : As2 := ks.map fun q => (q, til q T)
theorem prs_keys (T : As2) (ks : List Int) : (prs T ks).map (·.1) = ks := by induction ks with
  | nil => rfl
  | cons q ks ih => simp only [prs, List.map_cons] at ih ⊢; rw [ih]
theorem rev_newOk {T : As2} {ks : List Int} (hk : ks.Nodup) (hv : ∀ q ∈ ks, til q T ≤ 1099511627840) : NewOk (prs T ks).reverse := by
  intro j p hj hp
  have hmem : p ∈ prs T ks := by
    have := List.mem_of_getElem? hp
    simpa using this
  constructor
  · rw [lkp_none]
    intro hc
    have hnd : ((prs T ks).reverse.map (·.1)).Nodup := by rw [List.map_reverse, prs_keys]; exact (List.reverse_perm _).nodup_iff.2 hk
    rw [List.map_take] at hc
    obtain ⟨i, hi, hc⟩ := List.mem_take_iff_getElem.1 hc
    have hj' : ((prs T ks).reverse.map (·.1))[j]? = some p.1 := by rw [List.getElem?_map, hp]; rfl
    obtain ⟨hj2, hj3⟩ := List.getElem?_eq_some_iff.1 hj'
    have := List.pairwise_iff_getElem.1 hnd i j (by omega) hj2 (by omega)
    exact this (hc.trans hj3.symm)
  · obtain ⟨q, hq, rfl⟩ := List.mem_map.1 hmem
    exact hv q hq
theorem rev_til {T : As2} {ks : List Int} (hk : ks.Nodup) {q : Int} (h : q ∈ ks) : lkp q (prs T ks).reverse = some (til q T) := by
  refine lkp_mem ?_ ?_
  · rw [List.map_reverse, prs_keys]; exact (List.reverse_perm _).nodup_iff.2 hk
  · rw [List.mem_reverse]; exact List.mem_map.2 ⟨q, h, rfl⟩
theorem nodup_strict {ks : List Int} (h : ks.Pairwise (· ≤ ·)) (hn : ks.Nodup) : ks.Pairwise (· < ·) := by
  have := h.and hn
  exact this.imp (fun ⟨a, b⟩ => by omega)

/-- what LeaseBack asks of the leases that were set one by one -/
structure Back (A B C : As2) (ks : List Int) : Prop where
  ka : srt (A.map (·.1)) = ks
  kb : srt (B.map (·.1)) = ks
  kc : srt (C.map (·.1)) = ks
  tb : ∀ q, til q B = til q A
  tc : ∀ q ∈ ks, til q C = til q A
  rise : ks.Pairwise (· < ·)
  ok : NewOk C
  ec : C = (prs A ks).reverse
  lo : ∀ q ∈ ks, 64 ≤ til q A ∧ til q A ≤ 1063
  short : ks.length ≤ 12
  la : A.length ≤ 12
  lb : B.length ≤ 12
  lc : C.length ≤ 12
  nd : (C.map (·.1)).Nodup
theorem back_all (ps : As2) (hl : ps.length ≤ 12) (hp : ∀ p ∈ ps, 0 ≤ p.2 ∧ p.2 ≤ 999) :
    ∃ ks C, Back (sets ps []) (sets ps.reverse []) C ks := by
  have hnd : ((sets ps []).map (·.1)).Nodup := sets_nodup (by simp)
  have hks : (srt ((sets ps []).map (·.1))).Nodup := (srt_perm _).nodup_iff.2 hnd
  have hlen := sets_len ps []
  have hlen2 := sets_len ps.reverse []
  simp only [List.length_nil, List.length_reverse] at hlen hlen2
  have hmem : ∀ q ∈ srt ((sets ps []).map (·.1)), q ∈ ps.map (·.1) := fun q hq => by
    rcases (sets_mem ps [] q).1 (mem_srt.1 hq) with h | h
    · exact h
    · simp at h
  refine ⟨srt ((sets ps []).map (·.1)), (prs (sets ps []) (srt ((sets ps []).map (·.1)))).reverse, rfl, sets_rev_keys ps, ?_, sets_rev_til ps, ?_, nodup_strict (srt_sorted _) hks, ?_, rfl, ?_, ?_, ?_, ?_, ?_, ?_⟩
  · rw [List.map_reverse, prs_keys]
    refine sorted_unique (srt_sorted _) (srt_sorted _) ((srt_perm _).trans (List.reverse_perm _))
  · intro q hq
    rw [til, rev_til hks hq]; rfl
  · exact rev_newOk hks fun q hq => by have := sets_bounds hp (hmem q hq) (T := []) (by simp [til, lkp]); omega
  · intro q hq
    exact sets_bounds hp (hmem q hq) (by simp [til, lkp])
  · rw [srt_length, List.length_map]; omega
  · omega
  · omega
  · rw [List.length_reverse, prs, List.length_map, srt_length, List.length_map]; omega
  · rw [List.map_reverse, prs_keys]; exact (List.reverse_perm _).nodup_iff.2 hks
theorem Back.left {A B C : As2} {ks : List Int} (h : Back A B C ks) (g : Int) : (srt ((dropT g C).map (·.1))).length = (ks.filter fun q => !decide (q = g)).length := by
  rw [srt_length, dropT_keys g C h.nd]
  have hp : (C.map (·.1)).Perm ks := by rw [← h.kc]; exact (srt_perm _).symm
  exact (hp.filter _).length_eq
theorem Back.had {A B C : As2} {ks : List Int} (h : Back A B C ks) (g : Int) : (lkp g C).isSome = decide ((ks.filter fun q => !decide (q = g)).length < ks.length) := by
  rw [isSome_mem]
  have hm : g ∈ C.map (·.1) ↔ g ∈ ks := by rw [← h.kc]; exact mem_srt.symm
  have : g ∈ ks ↔ (ks.filter fun q => !decide (q = g)).length < ks.length := by
    rw [List.length_filter_lt_length_iff_exists]
    simp
  simp only [hm, this]
theorem Back.drop_til {A B C : As2} {ks : List Int} (h : Back A B C ks) {g q : Int} (hq : q ∈ ks) (hne : q ≠ g) : til q (dropT g C) = til q A := by
  rw [til, lkp_dropT g q C h.nd, if_neg hne]
  exact h.tc q hq
theorem Back.drop_gone {A B C : As2} {ks : List Int} (h : Back A B C ks) (g : Int) : til g (dropT g C) = 0 := by
  rw [til, lkp_dropT g g C h.nd, if_pos rfl]; rfl
theorem Back.cells {A B C : As2} {ks : List Int} (h : Back A B C ks) : (∀ q ∈ ks, til q C = til q A) ∧ (∀ q ∈ ks, til q B = til q A) := ⟨h.tc, fun q _ => h.tb q⟩
end SL
