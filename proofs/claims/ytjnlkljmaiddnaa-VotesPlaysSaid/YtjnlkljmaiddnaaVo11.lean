/-
  Votes in two orders: the plain law of VotesOrder.
-/
import Derived.Test.YtjnlkljmaiddnaaVo10
set_option linter.unusedVariables false
set_option linter.unusedSimpArgs false
set_option maxRecDepth 10000
namespace SL
open Go Go.Proofs Go.RowKit

def ordA (f : Nat → Mt × Nat) : Nat → VoT
  | 0 => []
  | i + 1 => vot (f i).1 (f i).2 (ordA f i)
def ordB (f : Nat → Mt × Nat) (n : Nat) : Nat → VoT
  | 0 => []
  | i + 1 => vot (f (n - 1 - i)).1 (f (n - 1 - i)).2 (vot (f (n - 1 - i)).1 (f (n - 1 - i)).2 (ordB f n i))
theorem ordA_ok (f : Nat → Mt × Nat) (i : Nat) : Ok7 (ordA f i) := by
  induction i with
  | zero => exact Ok7.nil
  | succ i ih => exact ih.vot
theorem ordB_ok (f : Nat → Mt × Nat) (n i : Nat) : Ok7 (ordB f n i) := by
  induction i with
  | zero => exact Ok7.nil
  | succ i ih => exact ih.vot.vot
theorem ordA_nd (f : Nat → Mt × Nat) (i : Nat) : ((ordA f i).map (·.1)).Nodup := by
  induction i with
  | zero => simp [ordA]
  | succ i ih => exact upM_keys ih
theorem ordB_nd (f : Nat → Mt × Nat) (n i : Nat) : ((ordB f n i).map (·.1)).Nodup := by
  induction i with
  | zero => simp [ordB]
  | succ i ih => exact upM_keys (upM_keys ih)
theorem vt_ordA {f : Nat → Mt × Nat} (hf : ∀ j, (f j).2 < 7) (m : Mt) (x i : Nat) : vt m x (ordA f i) = true ↔ ∃ j, j < i ∧ f j = (m, x) := by
  induction i with
  | zero => simp [ordA, vt_nil]
  | succ i ih =>
    rw [ordA, vt_vot (ordA_ok f i) _ _ _ _ (hf i)]
    split
    · rename_i h
      simp only [true_iff]
      exact ⟨i, by omega, Prod.ext h.1 h.2⟩
    · rename_i h
      rw [ih]
      constructor
      · rintro ⟨j, hj, e⟩; exact ⟨j, by omega, e⟩
      · rintro ⟨j, hj, e⟩
        refine ⟨j, ?_, e⟩
        rcases Nat.lt_or_ge j i with h1 | h1
        · exact h1
        · obtain rfl : j = i := by omega
          exact absurd (by rw [e]; exact ⟨rfl, rfl⟩) h
theorem vt_ordB {f : Nat → Mt × Nat} (hf : ∀ j, (f j).2 < 7) (n : Nat) (m : Mt) (x i : Nat) (hi : i ≤ n) : vt m x (ordB f n i) = true ↔ ∃ j, n - i ≤ j ∧ j < n ∧ f j = (m, x) := by
  induction i with
  | zero => simp only [ordB, vt_nil, Bool.false_eq_true, false_iff]; rintro ⟨j, h1, h2, _⟩; omega
  | succ i ih =>
    rw [ordB, vt_vot (ordB_ok f n i).vot _ _ _ _ (hf _), vt_vot (ordB_ok f n i) _ _ _ _ (hf _)]
    split
    · rename_i h
      simp only [true_iff]
      exact ⟨n - 1 - i, by omega, by omega, Prod.ext h.1 h.2⟩
    · rename_i h
      rw [ih (by omega)]
      constructor
      · rintro ⟨j, h1, h2, e⟩; exact ⟨j, by omega, h2, e⟩
      · rintro ⟨j, h1, h2, e⟩
        refine ⟨j, ?_, h2, e⟩
        rcases Nat.lt_or_ge j (n - i) with h3 | h3
        · obtain rfl : j = n - 1 - i := by omega
          exact absurd (by rw [e]; exact ⟨rfl, rfl⟩) h
        · exact h3
theorem wh_same {A B : VoT} (hA : Ok7 A) (hB : Ok7 B) {m : Mt} (h : ∀ i, vt m i A = vt m i B) : wh m A = wh m B := by
  refine List.ext_getElem (by rw [hA m, hB m]) fun i h1 h2 => ?_
  have := h i
  unfold vt at this
  rw [List.getD_eq_getElem?_getD, List.getD_eq_getElem?_getD, List.getElem?_eq_getElem h1, List.getElem?_eq_getElem h2] at this
  exact this
theorem ord_same {f : Nat → Mt × Nat} (hf : ∀ j, (f j).2 < 7) (n : Nat) (m : Mt) : wh m (ordA f n) = wh m (ordB f n n) :=
  wh_same (ordA_ok f n) (ordB_ok f n n) fun i => by
    rw [Bool.eq_iff_iff, vt_ordA hf, vt_ordB hf n m i n (Nat.le_refl _)]
    constructor
    · rintro ⟨j, h, e⟩; exact ⟨j, by omega, h, e⟩
    · rintro ⟨j, _, h, e⟩; exact ⟨j, h, e⟩
theorem ord_cnt {f : Nat → Mt × Nat} (hf : ∀ j, (f j).2 < 7) (n : Nat) (m : Mt) : cnt m (ordB f n n) = cnt m (ordA f n) := by unfold cnt; rw [ord_same hf]
theorem ord_has {f : Nat → Mt × Nat} (hf : ∀ j, (f j).2 < 7) {n i : Nat} (hi : i < n) : decide (((f i).2 : Int) ∈ ons (wh (f i).1 (ordA f n)) 0) = true := by
  rw [mem_vt]; exact (vt_ordA hf _ _ _).2 ⟨i, hi, rfl⟩
theorem cnt_none {m : Mt} {V : VoT} (h : lkM m V = none) : cnt m V = 0 := by unfold cnt wh; rw [h]; rfl
theorem cnt_same {m : Mt} {V U : VoT} (h : lkM m V = lkM m U) : cnt m V = cnt m U := by unfold cnt wh; rw [h]
theorem ord_gone (f : Nat → Mt × Nat) (n : Nat) (m : Mt) : cnt m (dlM m (ordB f n n)) = 0 := cnt_none (by rw [lkM_dlM (ordB_nd f n n), if_pos rfl])
theorem ord_stays {f : Nat → Mt × Nat} (hf : ∀ j, (f j).2 < 7) {n : Nat} {m a : Mt} (h : a ≠ m) : cnt a (dlM m (ordB f n n)) = cnt a (ordA f n) := by
  rw [cnt_same (U := ordB f n n) (by rw [lkM_dlM (ordB_nd f n n), if_neg h]), ord_cnt hf]
theorem ord_below (f : Nat → Mt × Nat) (n : Nat) {a : Mt} (h : a.2.1 = 0) : cnt a (belM 1 (ordA f n)) = 0 := cnt_none (by rw [lkM_belM, if_pos (by omega)])
theorem ord_above {f : Nat → Mt × Nat} (hf : ∀ j, (f j).2 < 7) {n i : Nat} (hi : i < n) (h : (f i).1.2.1 = 1) : cnt (f i).1 (belM 1 (ordA f n)) ≠ 0 := by
  rw [cnt_same (U := ordA f n) (by rw [lkM_belM, if_neg (by omega)])]
  have := ord_has hf hi
  rw [decide_eq_true_eq] at this
  unfold cnt
  exact Nat.pos_iff_ne_zero.1 (List.length_pos_of_mem this)
end SL
