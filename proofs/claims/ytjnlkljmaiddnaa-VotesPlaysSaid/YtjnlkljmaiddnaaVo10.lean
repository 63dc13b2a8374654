/-
  Votes and the document's votes: plain laws.
-/
import Derived.Test.YtjnlkljmaiddnaaVo5
set_option linter.unusedVariables false
set_option linter.unusedSimpArgs false
set_option maxRecDepth 10000
namespace SL
open Go Go.Proofs Go.RowKit

theorem ons_ge {bs : List Bool} {s : Nat} {z : Int} (h : z ∈ ons bs s) : (s : Int) ≤ z := by
  induction bs generalizing s with
  | nil => simp [ons] at h
  | cons c bs ih =>
    simp only [ons] at h
    split at h
    · rcases List.mem_cons.1 h with h | h
      · omega
      · have := ih h; omega
    · have := ih h; omega
theorem ons_strict (bs : List Bool) (s : Nat) : (ons bs s).Pairwise (· < ·) := by
  induction bs generalizing s with
  | nil => simp [ons]
  | cons c bs ih =>
    simp only [ons]
    split
    · refine List.pairwise_cons.2 ⟨fun z hz => ?_, ih _⟩
      have := ons_ge hz
      omega
    · exact ih _
theorem ons_lt {bs : List Bool} {s : Nat} {z : Int} (h : z ∈ ons bs s) : z < s + bs.length := by
  induction bs generalizing s with
  | nil => simp [ons] at h
  | cons c bs ih =>
    simp only [ons] at h
    simp only [List.length_cons]
    split at h
    · rcases List.mem_cons.1 h with h | h
      · omega
      · have := ih h; omega
    · have := ih h; omega
/-- strictly rising rows of the same numbers are the same -/
theorem strict_same {xs ys : List Int} (hx : xs.Pairwise (· < ·)) (hy : ys.Pairwise (· < ·)) (h : ∀ z, z ∈ xs ↔ z ∈ ys) : xs = ys :=
  sorted_unique (hx.imp fun h => Int.le_of_lt h) (hy.imp fun h => Int.le_of_lt h) (perm_nodup (hx.imp fun h => Int.ne_of_lt h) (hy.imp fun h => Int.ne_of_lt h) h)

/-! the document's votes -/
abbrev RvL := List (Mt × Int)
def whoR (n : Nat) (m : Mt) (R : RvL) : List Int := ((List.range n).map Int.ofNat).filter fun x => decide ((m, x) ∈ R)
def addR (m : Mt) (x : Int) (R : RvL) : RvL := if (m, x) ∈ R then R else R ++ [(m, x)]
def drpR (m : Mt) (R : RvL) : RvL := R.filter fun p => !decide (p.1 = m)
def belR (v : Int) (R : RvL) : RvL := R.filter fun p => decide (v ≤ p.1.2.1)
def belM (v : Int) (V : VoT) : VoT := V.filter fun p => !decide (p.1.2.1 < v)
theorem mem_addR {m a : Mt} {x y : Int} {R : RvL} : (a, y) ∈ addR m x R ↔ (a = m ∧ y = x) ∨ (a, y) ∈ R := by
  unfold addR
  split
  · constructor
    · exact .inr
    · rintro (⟨rfl, rfl⟩ | h)
      · assumption
      · exact h
  · simp only [List.mem_append, List.mem_singleton, Prod.mk.injEq]
    exact Or.comm
theorem mem_whoR {n : Nat} {m : Mt} {R : RvL} {z : Int} : z ∈ whoR n m R ↔ (0 ≤ z ∧ z < n) ∧ (m, z) ∈ R := by
  simp only [whoR, List.mem_filter, List.mem_map, List.mem_range, decide_eq_true_eq]
  constructor
  · rintro ⟨⟨a, ha, rfl⟩, h⟩; exact ⟨⟨Int.natCast_nonneg a, by show (a : Int) < n; omega⟩, h⟩
  · rintro ⟨⟨h0, h1⟩, h⟩; exact ⟨⟨z.toNat, by omega, by show ((z.toNat : Nat) : Int) = z; omega⟩, h⟩
theorem whoR_strict (n : Nat) (m : Mt) (R : RvL) : (whoR n m R).Pairwise (· < ·) := by
  refine List.Pairwise.filter _ ?_
  rw [List.pairwise_map]
  exact List.pairwise_lt_range.imp fun h => by show ((_ : Nat) : Int) < ((_ : Nat) : Int); omega
theorem whoR_len (n : Nat) (m : Mt) (R : RvL) : (whoR n m R).length ≤ n := by
  have := List.length_filter_le (fun x => decide ((m, x) ∈ R)) ((List.range n).map Int.ofNat)
  simpa [whoR] using this

/-- the votes say what the document's say -/
structure RelV (n : Nat) (V : VoT) (R : RvL) : Prop where
  ok : Ok7 V
  nd : (V.map (·.1)).Nodup
  at_ : ∀ m (i : Nat), vt m i V = true ↔ (m, (i : Int)) ∈ R
  lo : ∀ m x, (m, x) ∈ R → 0 ≤ x ∧ x < n
theorem RelV.nil (n : Nat) : RelV n [] [] := ⟨Ok7.nil, by simp, fun m i => by rw [vt_nil]; simp, fun m x h => by simp at h⟩
theorem RelV.who {n : Nat} {V : VoT} {R : RvL} (h : RelV n V R) (m : Mt) : ons (wh m V) 0 = whoR n m R := by
  refine strict_same (ons_strict _ _) (whoR_strict _ _ _) fun z => ?_
  rw [mem_whoR]
  constructor
  · intro hz
    have h0 := ons_ge hz
    obtain ⟨i, rfl⟩ : ∃ i : Nat, z = i := ⟨z.toNat, by omega⟩
    have hm := ons_mem (wh m V) i 0
    rw [Nat.zero_add] at hm
    have hr := (h.at_ m i).1 (hm.1 hz)
    exact ⟨h.lo m _ hr, hr⟩
  · rintro ⟨⟨h0, _⟩, hr⟩
    obtain ⟨i, rfl⟩ : ∃ i : Nat, z = i := ⟨z.toNat, by omega⟩
    have hm := ons_mem (wh m V) i 0
    rw [Nat.zero_add] at hm
    exact hm.2 ((h.at_ m i).2 hr)
theorem RelV.has {n : Nat} {V : VoT} {R : RvL} (h : RelV n V R) (m : Mt) (x : Int) : decide (x ∈ ons (wh m V) 0) = decide ((m, x) ∈ R) := by
  rw [h.who m]
  congr 1
  rw [mem_whoR]
  exact propext ⟨fun a => a.2, fun a => ⟨h.lo m x a, a⟩⟩
theorem upM_keys {m : Mt} {b : List Bool} {V : VoT} (h : (V.map (·.1)).Nodup) : ((upM m b V).map (·.1)).Nodup := by
  have hk : ∀ V : VoT, (upM m b V).map (·.1) = if m ∈ V.map (·.1) then V.map (·.1) else V.map (·.1) ++ [m] := by
    intro V
    induction V with
    | nil => simp [upM]
    | cons p V ih =>
      simp only [upM]
      by_cases e : p.1 = m
      · rw [if_pos e, if_pos (by simp [e])]; simp [e]
      · rw [if_neg e]
        simp only [List.map_cons, ih]
        by_cases hm : m ∈ V.map (·.1)
        · rw [if_pos hm, if_pos (List.mem_cons_of_mem _ hm)]
        · rw [if_neg hm, if_neg (by rw [List.mem_cons, not_or]; exact ⟨fun c => e c.symm, hm⟩)]; rfl
  rw [hk]
  split
  · exact h
  · rename_i hm
    rw [List.nodup_append]
    refine ⟨h, by simp, fun a ha b' hb' => ?_⟩
    obtain rfl : b' = m := by simpa using hb'
    exact fun c => hm (c ▸ ha)
theorem RelV.add {n : Nat} {V : VoT} {R : RvL} (h : RelV n V R) (m : Mt) {i : Nat} (hi : i < n) (hn : n ≤ 7) : RelV n (vot m i V) (addR m i R) := by
  refine ⟨h.ok.vot, upM_keys h.nd, fun a j => ?_, fun a x ha => ?_⟩
  · rw [vt_vot h.ok m a i j (by omega), mem_addR]
    split
    · rename_i c; simp [c.1.symm, c.2]
    · rename_i c
      rw [h.at_]
      constructor
      · exact .inr
      · rintro (⟨e1, e2⟩ | e)
        · exact absurd ⟨e1.symm, by omega⟩ c
        · exact e
  · rcases mem_addR.1 ha with ⟨_, rfl⟩ | ha
    · omega
    · exact h.lo a x ha
theorem lkM_none {m : Mt} {V : VoT} (h : m ∉ V.map (·.1)) : lkM m V = none := by
  induction V with
  | nil => rfl
  | cons p V ih =>
    simp only [List.map_cons, List.mem_cons, not_or] at h
    simp only [lkM, if_neg (fun c => h.1 (Eq.symm c)), ih h.2]
theorem lkM_dlM {m x : Mt} {V : VoT} (h : (V.map (·.1)).Nodup) : lkM x (dlM m V) = if x = m then none else lkM x V := by
  induction V with
  | nil => simp [dlM, lkM]
  | cons p V ih =>
    simp only [List.map_cons, List.nodup_cons] at h
    simp only [dlM]
    by_cases e : p.1 = m
    · rw [if_pos e]
      by_cases ex : x = m
      · rw [if_pos ex, ex, ← e]; exact lkM_none h.1
      · rw [if_neg ex]; simp only [lkM]; rw [if_neg (fun c => ex (c.symm.trans e))]
    · rw [if_neg e]
      simp only [lkM, ih h.2]
      by_cases ex : p.1 = x
      · rw [if_pos ex, if_pos ex, if_neg (fun c => e (ex.trans c))]
      · rw [if_neg ex, if_neg ex]
theorem dlM_sub (m : Mt) (V : VoT) : (dlM m V).Sublist V := by
  induction V with
  | nil => exact .slnil
  | cons p V ih =>
    simp only [dlM]
    split
    · exact List.sublist_cons_self _ _
    · exact ih.cons_cons _
theorem vt_none {m : Mt} {i : Nat} {V : VoT} (h : lkM m V = none) : vt m i V = false := by
  unfold vt wh
  rw [h]
  have : i = 0 ∨ i = 1 ∨ i = 2 ∨ i = 3 ∨ i = 4 ∨ i = 5 ∨ i = 6 ∨ 7 ≤ i := by omega
  rcases this with rfl | rfl | rfl | rfl | rfl | rfl | rfl | h7 <;> first | rfl | skip
  simp [none7, List.getD_eq_getElem?_getD, List.getElem?_eq_none, h7]
theorem vt_same {m : Mt} {i : Nat} {V U : VoT} (h : lkM m V = lkM m U) : vt m i V = vt m i U := by unfold vt wh; rw [h]
theorem ok7_of {V U : VoT} (hV : Ok7 V) (h : ∀ m, lkM m U = none ∨ lkM m U = lkM m V) : Ok7 U := fun m => by
  have := hV m
  unfold wh at this ⊢
  rcases h m with e | e
  · rw [e]; rfl
  · rw [e]; exact this
theorem RelV.drop {n : Nat} {V : VoT} {R : RvL} (h : RelV n V R) (m : Mt) : RelV n (dlM m V) (drpR m R) := by
  refine ⟨ok7_of h.ok fun x => ?_, h.nd.sublist ((dlM_sub m V).map _), fun a j => ?_, fun a x ha => h.lo a x (List.mem_filter.1 ha).1⟩
  · rw [lkM_dlM h.nd]; split
    · exact .inl rfl
    · exact .inr rfl
  · simp only [drpR, List.mem_filter, Bool.not_eq_true', decide_eq_false_iff_not]
    by_cases e : a = m
    · rw [vt_none (by rw [lkM_dlM h.nd, if_pos e])]; simp [e]
    · rw [vt_same (U := V) (by rw [lkM_dlM h.nd, if_neg e]), h.at_]; simp [e]
theorem lkM_belM (v : Int) (x : Mt) (V : VoT) : lkM x (belM v V) = if x.2.1 < v then none else lkM x V := by
  induction V with
  | nil => simp [belM, lkM]
  | cons p V ih =>
    simp only [belM, List.filter_cons] at ih ⊢
    by_cases hp : p.1.2.1 < v
    · rw [if_neg (by simp [hp]), ih]
      split
      · rfl
      · rename_i hx
        simp only [lkM]
        rw [if_neg (fun c => hx (by rw [← c]; exact hp))]
    · rw [if_pos (by simp [hp])]
      simp only [lkM, ih]
      by_cases e : p.1 = x
      · rw [if_pos e, if_pos e, if_neg (e ▸ hp)]
      · rw [if_neg e, if_neg e]
theorem RelV.below {n : Nat} {V : VoT} {R : RvL} (h : RelV n V R) (v : Int) : RelV n (belM v V) (belR v R) := by
  refine ⟨ok7_of h.ok fun x => ?_, h.nd.sublist (List.Sublist.map _ List.filter_sublist), fun a j => ?_, fun a x ha => h.lo a x (List.mem_filter.1 ha).1⟩
  · rw [lkM_belM]; split
    · exact .inl rfl
    · exact .inr rfl
  · simp only [belR, List.mem_filter, decide_eq_true_eq]
    by_cases e : a.2.1 < v
    · rw [vt_none (by rw [lkM_belM, if_pos e])]; simp; intro _; omega
    · rw [vt_same (U := V) (by rw [lkM_belM, if_neg e]), h.at_]; simp; intro _; omega
end SL
