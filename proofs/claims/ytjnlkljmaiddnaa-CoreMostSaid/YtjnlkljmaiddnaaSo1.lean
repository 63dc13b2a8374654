/-
  Sorting, in plain lists: swaps within a range, what is sorted.
-/
import Derived.Test.YtjnlkljmaiddnaaTy
set_option linter.unusedVariables false
set_option linter.unusedSimpArgs false
namespace SL
open Go

/-- the number at place i -/
def nat_ (xs : List Int) (i : Nat) : Int := xs.getD i 0
def swp (xs : List Int) (i j : Nat) : List Int := (xs.set i (nat_ xs j)).set j (nat_ xs i)
theorem swp_length (xs : List Int) (i j : Nat) : (swp xs i j).length = xs.length := by simp [swp]
theorem nat_set (xs : List Int) (i k : Nat) (v : Int) (h : i < xs.length) : nat_ (xs.set i v) k = if k = i then v else nat_ xs k := by
  unfold nat_
  simp only [List.getD_eq_getElem?_getD]
  by_cases e : k = i
  · subst e; simp [h]
  · rw [List.getElem?_set_ne (fun c => e c.symm), if_neg e]
theorem nat_swp (xs : List Int) {i j k : Nat} (hi : i < xs.length) (hj : j < xs.length) : nat_ (swp xs i j) k = if k = j then nat_ xs i else if k = i then nat_ xs j else nat_ xs k := by
  unfold swp
  rw [nat_set _ _ _ _ (by simpa using hj), nat_set _ _ _ _ hi]
theorem nat_eq {xs : List Int} {i : Nat} (h : i < xs.length) : xs[i] = nat_ xs i := by simp [nat_, List.getD_eq_getElem?_getD, List.getElem?_eq_getElem h]
theorem swp_comm (xs : List Int) (i j : Nat) : swp xs i j = swp xs j i := by
  unfold swp
  by_cases e : i = j
  · subst e; rfl
  · rw [List.set_comm _ _ e]

/-- swaps within the places from a on, below b -/
inductive Sw (a b : Nat) : List Int → List Int → Prop
  | refl (xs : List Int) : Sw a b xs xs
  | step {xs ys : List Int} (i j : Nat) (h : Sw a b xs ys) (hi : a ≤ i ∧ i < b) (hj : a ≤ j ∧ j < b) (hb : b ≤ ys.length) : Sw a b xs (swp ys i j)
theorem Sw.length {a b : Nat} {xs ys : List Int} (h : Sw a b xs ys) : ys.length = xs.length := by
  induction h with
  | refl => rfl
  | step i j h hi hj hb ih => rw [swp_length, ih]
theorem Sw.trans {a b : Nat} {xs ys zs : List Int} (h : Sw a b xs ys) (k : Sw a b ys zs) : Sw a b xs zs := by
  induction k with
  | refl => exact h
  | step i j k hi hj hb ih => exact .step i j ih hi hj hb
theorem Sw.mono {a b a' b' : Nat} {xs ys : List Int} (h : Sw a b xs ys) (ha : a' ≤ a) (hb : b ≤ b') (hl : b' ≤ xs.length) : Sw a' b' xs ys := by
  induction h with
  | refl => exact .refl _
  | step i j h hi hj hb ih => exact .step i j ih (by omega) (by omega) (by rw [h.length]; omega)
theorem Sw.out {a b : Nat} {xs ys : List Int} (h : Sw a b xs ys) {k : Nat} (hk : k < a ∨ b ≤ k) : nat_ ys k = nat_ xs k := by
  induction h with
  | refl => rfl
  | step i j h hi hj hb ih =>
    rw [nat_swp _ (by omega) (by omega), if_neg (by omega), if_neg (by omega), ih]
/-- what holds of all numbers of the range -/
theorem Sw.all {a b : Nat} {xs ys : List Int} (h : Sw a b xs ys) {p : Int → Prop} (hp : ∀ k, a ≤ k → k < b → p (nat_ xs k)) : ∀ k, a ≤ k → k < b → p (nat_ ys k) := by
  induction h with
  | refl => exact hp
  | step i j h hi hj hb ih =>
    intro k h1 h2
    rw [nat_swp _ (by omega) (by omega)]
    split
    · exact ih i hi.1 hi.2
    · split
      · exact ih j hj.1 hj.2
      · exact ih k h1 h2
theorem perm_swp (xs : List Int) {i j : Nat} (hi : i < xs.length) (hj : j < xs.length) : (swp xs i j).Perm xs := by
  rw [List.perm_iff_count]
  intro c
  have key : ∀ (ys : List Int) (k : Nat) (v : Int) (hk : k < ys.length), (ys.set k v).count c + (if nat_ ys k = c then 1 else 0) = ys.count c + (if v = c then 1 else 0) := by
    intro ys
    induction ys with
    | nil => intro k v hk; simp at hk
    | cons y ys ih =>
      intro k v hk
      cases k with
      | zero => simp [nat_, List.count_cons]; split <;> split <;> omega
      | succ k =>
        have := ih k v (by simpa using hk)
        simp only [List.set_cons_succ, List.count_cons]
        have e : nat_ (y :: ys) (k + 1) = nat_ ys k := by simp [nat_]
        rw [e]
        omega
  have h1 := key xs i (nat_ xs j) hi
  have h2 := key (xs.set i (nat_ xs j)) j (nat_ xs i) (by simpa using hj)
  rw [nat_set _ _ _ _ hi] at h2
  unfold swp
  by_cases e : j = i
  · subst e; simp at h1 h2 ⊢; omega
  · rw [if_neg e] at h2; omega
theorem Sw.perm {a b : Nat} {xs ys : List Int} (h : Sw a b xs ys) : ys.Perm xs := by
  induction h with
  | refl => exact .refl _
  | step i j h hi hj hb ih => exact (perm_swp _ (by omega) (by omega)).trans ih

def Srt (xs : List Int) (a b : Nat) : Prop := ∀ i j, a ≤ i → i < j → j < b → nat_ xs i ≤ nat_ xs j
theorem Srt.small {xs : List Int} {a b : Nat} (h : b ≤ a + 1) : Srt xs a b := fun i j h1 h2 h3 => by omega
/-- sorted but for the number at j, which may be less than those ahead of it -/
def SrtBut (xs : List Int) (a b j : Nat) : Prop := ∀ i k, a ≤ i → i < k → k < b → k ≠ j → nat_ xs i ≤ nat_ xs k
theorem SrtBut.of {xs : List Int} {a b : Nat} (h : Srt xs a b) : SrtBut xs a (b + 1) b := fun i k h1 h2 h3 h4 => h i k h1 h2 (by omega)
theorem SrtBut.down {xs : List Int} {a b j : Nat} (h : SrtBut xs a b j) (hj : a < j) (hb : j < b) (hl : b ≤ xs.length) (hlt : nat_ xs j < nat_ xs (j - 1)) : SrtBut (swp xs j (j - 1)) a b (j - 1) := by
  intro i k h1 h2 h3 h4
  rw [nat_swp _ (by omega) (by omega), nat_swp _ (by omega) (by omega)]
  rw [if_neg h4]
  by_cases e1 : k = j
  · subst e1
    rw [if_pos rfl]
    by_cases e2 : i = k - 1
    · rw [if_pos e2]; omega
    · rw [if_neg e2, if_neg (by omega)]; exact h i (k - 1) h1 (by omega) (by omega) (by omega)
  · rw [if_neg e1]
    by_cases e2 : i = j - 1
    · rw [if_pos e2]; exact h j k (by omega) (by omega) h3 e1
    · rw [if_neg e2]
      by_cases e3 : i = j
      · rw [if_pos e3]
        exact h (j - 1) k (by omega) (by omega) h3 e1
      · rw [if_neg e3]; exact h i k h1 h2 h3 e1
theorem SrtBut.done {xs : List Int} {a b j : Nat} (h : SrtBut xs a b j) (hd : j ≤ a ∨ nat_ xs (j - 1) ≤ nat_ xs j) (hb : j < b) : Srt xs a b := by
  intro i k h1 h2 h3
  by_cases e : k = j
  · subst e
    rcases hd with hd | hd
    · omega
    · by_cases e2 : i = k - 1
      · subst e2; exact hd
      · have := h i (k - 1) h1 (by omega) (by omega) (by omega)
        omega
  · exact h i k h1 h2 h3 e

/-- the sorted list -/
def srt (xs : List Int) : List Int := xs.mergeSort (fun a b => decide (a ≤ b))
theorem srt_perm (xs : List Int) : (srt xs).Perm xs := List.mergeSort_perm xs _
theorem srt_length (xs : List Int) : (srt xs).length = xs.length := (srt_perm xs).length_eq
theorem srt_sorted (xs : List Int) : (srt xs).Pairwise (· ≤ ·) := by
  have := List.pairwise_mergeSort (le := fun a b : Int => decide (a ≤ b)) (by intro a b c; simp; omega) (by intro a b; simp; omega) xs
  exact this.imp (by simp)
theorem sorted_unique {xs ys : List Int} (hx : xs.Pairwise (· ≤ ·)) (hy : ys.Pairwise (· ≤ ·)) (hp : xs.Perm ys) : xs = ys :=
  List.Perm.eq_of_pairwise (le := fun a b : Int => a ≤ b) (fun a b _ _ h1 h2 => Int.le_antisymm h1 h2) hx hy hp
theorem Srt.pairwise {xs : List Int} (h : Srt xs 0 xs.length) : xs.Pairwise (· ≤ ·) := by
  rw [List.pairwise_iff_getElem]
  intro i j hi hj hij
  have := h i j (by omega) hij hj
  rwa [← nat_eq hi, ← nat_eq hj] at this
theorem srt_of {xs ys : List Int} (h : Sw 0 xs.length xs ys) (hs : Srt ys 0 xs.length) : ys = srt xs := by
  refine sorted_unique (Srt.pairwise ?_) (srt_sorted xs) (h.perm.trans (srt_perm xs).symm)
  rw [h.length]; exact hs

theorem srt_congr {xs ys : List Int} (h : xs.Perm ys) : srt xs = srt ys := sorted_unique (srt_sorted xs) (srt_sorted ys) ((srt_perm xs).trans (h.trans (srt_perm ys).symm))
theorem mem_srt {xs : List Int} {x : Int} : x ∈ srt xs ↔ x ∈ xs := (srt_perm xs).mem_iff

/-! cells -/
def iv (i : Int) : Value := .int .u64 i
theorem nth_ints {xs : List Int} {ex : List Value} {i : Nat} (h : i < xs.length) : nth (xs.map iv ++ ex) i = some (iv (nat_ xs i)) := by
  rw [nth_eq, List.getElem?_append_left (by simpa using h), List.getElem?_map, List.getElem?_eq_getElem h, nat_eq h]
  rfl
theorem put_int {xs : List Int} {ex : List Value} {i : Nat} (h : i < xs.length) (v : Int) : PutAt (xs.map iv ++ ex) i [iv v] ((xs.set i v).map iv ++ ex) := by
  refine PutAt.intro ?_ ?_
  · simp; omega
  · have e : xs.set i v = xs.take i ++ v :: xs.drop (i + 1) := List.set_eq_take_append_cons_drop.trans (by rw [if_pos h])
    rw [e]
    simp only [List.map_append, List.map_cons, List.length_singleton, List.append_assoc, List.cons_append]
    rw [List.take_append_of_le_length (by simp; omega), List.drop_append_of_le_length (by simp; omega), List.map_take, List.map_drop]
    rfl
theorem one_ints (xs : List Int) : ∀ v ∈ xs.map iv, v.oneCell' = true := by
  intro v hv
  obtain ⟨b, _, rfl⟩ := List.mem_map.1 hv
  rfl
end SL
