/-
  pdqsort's plain law: heaps, parts, what is settled.
-/
import Derived.Test.YtjnlkljmaiddnaaSo3
set_option linter.unusedVariables false
set_option linter.unusedSimpArgs false
namespace SL
open Go

/-! heaps: the numbers from the place f on, below f + hi -/
def kid (i c : Nat) : Prop := c = 2 * i + 1 ∨ c = 2 * i + 2
def Hpp (xs : List Int) (f lo hi : Nat) : Prop := ∀ i c, lo ≤ i → kid i c → c < hi → nat_ xs (f + c) ≤ nat_ xs (f + i)
/-- a heap but for the number at r, which may be less than its kids -/
def HpBut (xs : List Int) (f lo hi r : Nat) : Prop := (∀ i c, lo ≤ i → i ≠ r → kid i c → c < hi → nat_ xs (f + c) ≤ nat_ xs (f + i)) ∧
  (∀ p c, lo ≤ p → kid p r → kid r c → c < hi → nat_ xs (f + c) ≤ nat_ xs (f + p))
theorem HpBut.of {xs : List Int} {f lo hi : Nat} (h : Hpp xs f (lo + 1) hi) : HpBut xs f lo hi lo :=
  ⟨fun i c h1 h2 h3 h4 => h i c (by omega) h3 h4, fun p c h1 h2 _ _ => by unfold kid at h2; omega⟩
theorem HpBut.down {xs : List Int} {f lo hi r c : Nat} (h : HpBut xs f lo hi r) (hr : lo ≤ r) (hk : kid r c) (hc : c < hi) (hl : f + hi ≤ xs.length) (hlt : nat_ xs (f + r) < nat_ xs (f + c))
    (hmax : ∀ d, kid r d → d < hi → nat_ xs (f + d) ≤ nat_ xs (f + c)) : HpBut (swp xs (f + r) (f + c)) f lo hi c := by
  have sw : ∀ k, nat_ (swp xs (f + r) (f + c)) (f + k) = if k = c then nat_ xs (f + r) else if k = r then nat_ xs (f + c) else nat_ xs (f + k) := fun k => by
    have hk' : r < hi := by unfold kid at hk; omega
    rw [nat_swp _ (by omega) (by omega)]
    by_cases e : k = c
    · rw [if_pos e, if_pos (by omega)]
    · rw [if_neg e, if_neg (by omega)]
      by_cases e2 : k = r
      · rw [if_pos e2, if_pos (by omega)]
      · rw [if_neg e2, if_neg (by omega)]
  constructor
  · intro i d h1 h2 h3 h4
    rw [sw, sw, if_neg h2]
    by_cases e : i = r
    · rw [if_pos e]
      subst e
      by_cases e2 : d = c
      · rw [if_pos e2]; omega
      · rw [if_neg e2, if_neg (by unfold kid at h3; omega)]
        exact hmax d h3 h4
    · rw [if_neg e]
      by_cases e2 : d = c
      · subst e2; exfalso; unfold kid at h3 hk; omega
      · rw [if_neg e2]
        by_cases e3 : d = r
        · rw [if_pos e3]
          subst e3
          exact h.2 i c h1 h3 hk hc
        · rw [if_neg e3]; exact h.1 i d h1 e h3 h4
  · intro p d h1 h2 h3 h4
    have hp : p = r := by unfold kid at h2 hk; omega
    subst hp
    rw [sw, sw, if_neg (by unfold kid at h3; omega), if_neg (by unfold kid at h3 hk; omega), if_neg (by unfold kid at hk; omega), if_pos rfl]
    exact h.1 c d (by unfold kid at hk; omega) (by unfold kid at hk; omega) h3 h4
theorem HpBut.done {xs : List Int} {f lo hi r : Nat} (h : HpBut xs f lo hi r) (hd : ∀ c, kid r c → c < hi → nat_ xs (f + c) ≤ nat_ xs (f + r)) : Hpp xs f lo hi := by
  intro i c h1 h2 h3
  by_cases e : i = r
  · subst e; exact hd c h2 h3
  · exact h.1 i c h1 e h2 h3
theorem Hpp.top {xs : List Int} {f hi : Nat} (h : Hpp xs f 0 hi) : ∀ k, k < hi → nat_ xs (f + k) ≤ nat_ xs f := by
  intro k
  induction k using Nat.strongRecOn with
  | ind k ih =>
    intro hk
    by_cases e : k = 0
    · subst e; exact Int.le_refl _
    · have h1 := h ((k - 1) / 2) k (Nat.zero_le _) (by unfold kid; omega) hk
      have h2 := ih ((k - 1) / 2) (by omega) (by omega)
      omega
theorem Hpp.none {xs : List Int} {f lo hi : Nat} (h : hi ≤ 2 * lo + 1) : Hpp xs f lo hi := fun i c h1 h2 h3 => by unfold kid at h2; omega
/-- what is left to be popped, and what has been -/
structure Popd (xs : List Int) (f i hi : Nat) : Prop where
  heap : Hpp xs f 0 i
  low : ∀ k m, k < i → i ≤ m → m < hi → nat_ xs (f + k) ≤ nat_ xs (f + m)
  high : ∀ k m, i ≤ k → k < m → m < hi → nat_ xs (f + k) ≤ nat_ xs (f + m)
theorem Popd.of {xs : List Int} {f hi : Nat} (h : Hpp xs f 0 hi) : Popd xs f hi hi := ⟨h, fun k m _ h2 h3 => by omega, fun k m h1 h2 h3 => by omega⟩
/-- the greatest goes to the end; the rest is a heap but for its first number -/
theorem Popd.swap {xs : List Int} {f i hi : Nat} (h : Popd xs f (i + 1) hi) (hi' : i < hi) (hl : f + hi ≤ xs.length) :
    Hpp (swp xs f (f + i)) f 1 i ∧ (∀ k m, k < i → i ≤ m → m < hi → nat_ (swp xs f (f + i)) (f + k) ≤ nat_ (swp xs f (f + i)) (f + m)) ∧
    (∀ k m, i ≤ k → k < m → m < hi → nat_ (swp xs f (f + i)) (f + k) ≤ nat_ (swp xs f (f + i)) (f + m)) := by
  have sw : ∀ k, nat_ (swp xs f (f + i)) (f + k) = if k = i then nat_ xs f else if k = 0 then nat_ xs (f + i) else nat_ xs (f + k) := fun k => by
    rw [nat_swp _ (by omega) (by omega)]
    by_cases e : k = i
    · rw [if_pos e, if_pos (by omega)]
    · rw [if_neg e, if_neg (by omega)]
      by_cases e2 : k = 0
      · rw [if_pos e2, if_pos (by omega)]
      · rw [if_neg e2, if_neg (by omega)]
  refine ⟨?_, ?_, ?_⟩
  · intro j c h1 h2 h3
    rw [sw, sw, if_neg (by omega), if_neg (by unfold kid at h2; omega), if_neg (by unfold kid at h2; omega), if_neg (by omega)]
    exact h.heap j c (Nat.zero_le _) h2 (by omega)
  · intro k m h1 h2 h3
    rw [sw, sw, if_neg (by omega : ¬ k = i)]
    by_cases e : m = i
    · rw [if_pos e]
      split
      · exact h.heap.top i (by omega)
      · exact h.heap.top k (by omega)
    · rw [if_neg e, if_neg (by omega : ¬ m = 0)]
      split
      · exact h.low i m (by omega) (by omega) h3
      · exact h.low k m (by omega) (by omega) h3
  · intro k m h1 h2 h3
    rw [sw, sw, if_neg (by omega : ¬ m = i), if_neg (by omega : ¬ m = 0)]
    by_cases e : k = i
    · rw [if_pos e]
      have := h.low 0 m (by omega) (by omega) h3
      simpa using this
    · rw [if_neg e, if_neg (by omega : ¬ k = 0)]
      exact h.high k m (by omega) h2 h3
theorem Popd.sift {xs ys : List Int} {f i hi : Nat} (hs : Sw f (f + i) xs ys) (hh : Hpp ys f 0 i) (hi' : i < hi) (h1 : ∀ k m, k < i → i ≤ m → m < hi → nat_ xs (f + k) ≤ nat_ xs (f + m))
    (h2 : ∀ k m, i ≤ k → k < m → m < hi → nat_ xs (f + k) ≤ nat_ xs (f + m)) : Popd ys f i hi := by
  refine ⟨hh, fun k m a b c => ?_, fun k m a b c => ?_⟩
  · rw [hs.out (k := f + m) (.inr (by omega))]
    refine hs.all (p := fun v => v ≤ nat_ xs (f + m)) (fun q hq1 hq2 => ?_) (f + k) (by omega) (by omega)
    have := h1 (q - f) m (by omega) b c
    rwa [show f + (q - f) = q from by omega] at this
  · rw [hs.out (k := f + m) (.inr (by omega)), hs.out (k := f + k) (.inr (by omega))]
    exact h2 k m a b c
theorem Popd.srt {xs : List Int} {f hi : Nat} (h : Popd xs f 0 hi) : Srt xs f (f + hi) := by
  intro i j h1 h2 h3
  have := h.high (i - f) (j - f) (by omega) (by omega) (by omega)
  rwa [show f + (i - f) = i from by omega, show f + (j - f) = j from by omega] at this

/-! parts -/
/-- a number at the place m: less ahead of it, not less behind it -/
structure Parted (xs : List Int) (a b m : Nat) : Prop where
  low : ∀ k, a ≤ k → k < m → nat_ xs k ≤ nat_ xs m
  high : ∀ k, m < k → k < b → nat_ xs m ≤ nat_ xs k
/-- under way: less than the first one from a + 1 on, below i; not less behind j -/
structure Parting (xs : List Int) (a b i j : Nat) : Prop where
  low : ∀ k, a < k → k < i → nat_ xs k < nat_ xs a
  high : ∀ k, j < k → k < b → nat_ xs a ≤ nat_ xs k
theorem Parting.one {xs : List Int} {a b i j : Nat} (h : Parting xs a b i j) (hlt : nat_ xs i < nat_ xs a) : Parting xs a b (i + 1) j :=
  ⟨fun k h1 h2 => by by_cases e : k = i; (subst e; exact hlt); exact h.low k h1 (by omega), h.high⟩
theorem Parting.two {xs : List Int} {a b i j : Nat} (h : Parting xs a b i (j + 1)) (hge : nat_ xs a ≤ nat_ xs (j + 1)) : Parting xs a b i j :=
  ⟨h.low, fun k h1 h2 => by by_cases e : k = j + 1; (subst e; exact hge); exact h.high k (by omega) h2⟩
theorem Parting.swap {xs : List Int} {a b i j : Nat} (h : Parting xs a b i (j + 1)) (ha : a < i) (hij : i < j + 1) (hb : j + 1 < b) (hl : b ≤ xs.length) (h1 : nat_ xs a ≤ nat_ xs i) (h2 : nat_ xs (j + 1) < nat_ xs a) : Parting (swp xs i (j + 1)) a b (i + 1) j := by
  constructor
  · intro k h3 h4
    rw [nat_swp _ (by omega) (by omega), nat_swp _ (by omega) (by omega), if_neg (by omega : ¬ k = j + 1), if_neg (by omega : ¬ a = j + 1), if_neg (by omega : ¬ a = i)]
    split
    · exact h2
    · exact h.low k h3 (by omega)
  · intro k h3 h4
    rw [nat_swp _ (by omega) (by omega), nat_swp _ (by omega) (by omega), if_neg (by omega : ¬ a = j + 1), if_neg (by omega : ¬ a = i)]
    split
    · exact h1
    · rw [if_neg (by omega)]
      exact h.high k (by omega) h4
theorem Parting.fin {xs : List Int} {a b j : Nat} (h : Parting xs a b (j + 1) j) (ha : a ≤ j) (hb : j < b) (hl : b ≤ xs.length) : Parted (swp xs j a) a b j := by
  constructor
  · intro k h1 h2
    rw [nat_swp _ (by omega) (by omega), nat_swp _ (by omega) (by omega), if_pos (rfl : j = j)]
    by_cases e : j = a
    · omega
    · rw [if_neg e]
      by_cases e2 : k = a
      · rw [if_pos e2]
        have := h.low j (by omega) (by omega)
        omega
      · rw [if_neg e2, if_neg (by omega)]
        have := h.low k (by omega) (by omega)
        omega
  · intro k h1 h2
    rw [nat_swp _ (by omega) (by omega), nat_swp _ (by omega) (by omega), if_neg (by omega : ¬ k = a), if_neg (by omega : ¬ k = j), if_pos (rfl : j = j)]
    by_cases e : j = a
    · rw [if_pos e]
      have := h.high k h1 h2
      rwa [e]
    · rw [if_neg e]; exact h.high k h1 h2
theorem Parting.of {xs : List Int} {a b : Nat} (hb : a < b) : Parting xs a b (a + 1) (b - 1) := ⟨fun k h1 h2 => by omega, fun k h1 h2 => by omega⟩
/-- equal ones: not greater than the first one from a on, below i; greater behind j -/
structure Eqing (xs : List Int) (a b i j : Nat) : Prop where
  low : ∀ k, a ≤ k → k < i → nat_ xs k ≤ nat_ xs a
  high : ∀ k, j < k → k < b → nat_ xs a < nat_ xs k
theorem Eqing.of {xs : List Int} {a b : Nat} (hb : a < b) : Eqing xs a b (a + 1) (b - 1) := ⟨fun k h1 h2 => by rw [show k = a from by omega]; exact Int.le_refl _, fun k h1 h2 => by omega⟩
theorem Eqing.one {xs : List Int} {a b i j : Nat} (h : Eqing xs a b i j) (hle : nat_ xs i ≤ nat_ xs a) : Eqing xs a b (i + 1) j :=
  ⟨fun k h1 h2 => by by_cases e : k = i; (subst e; exact hle); exact h.low k h1 (by omega), h.high⟩
theorem Eqing.two {xs : List Int} {a b i j : Nat} (h : Eqing xs a b i (j + 1)) (hgt : nat_ xs a < nat_ xs (j + 1)) : Eqing xs a b i j :=
  ⟨h.low, fun k h1 h2 => by by_cases e : k = j + 1; (subst e; exact hgt); exact h.high k (by omega) h2⟩
theorem Eqing.swap {xs : List Int} {a b i j : Nat} (h : Eqing xs a b i (j + 1)) (ha : a < i) (hij : i < j + 1) (hb : j + 1 < b) (hl : b ≤ xs.length) (h1 : nat_ xs a < nat_ xs i) (h2 : nat_ xs (j + 1) ≤ nat_ xs a) : Eqing (swp xs i (j + 1)) a b (i + 1) j := by
  constructor
  · intro k h3 h4
    rw [nat_swp _ (by omega) (by omega), nat_swp _ (by omega) (by omega), if_neg (by omega : ¬ k = j + 1), if_neg (by omega : ¬ a = j + 1), if_neg (by omega : ¬ a = i)]
    split
    · exact h2
    · exact h.low k h3 (by omega)
  · intro k h3 h4
    rw [nat_swp _ (by omega) (by omega), nat_swp _ (by omega) (by omega), if_neg (by omega : ¬ a = j + 1), if_neg (by omega : ¬ a = i)]
    split
    · exact h1
    · rw [if_neg (by omega)]
      exact h.high k (by omega) h4

/-! pdqsort's rounds: what is outside of [a, b) is settled -/
structure Stl (xs : List Int) (a0 b0 a b : Nat) : Prop where
  ab : a0 ≤ a ∧ a ≤ b ∧ b ≤ b0
  stl : ∀ i j, a0 ≤ i → i < j → j < b0 → (i < a ∨ b ≤ j) → nat_ xs i ≤ nat_ xs j
theorem Stl.of {xs : List Int} {a b : Nat} (h : a ≤ b) : Stl xs a b a b := ⟨by omega, fun i j h1 h2 h3 h4 => by omega⟩
theorem Stl.sw {xs ys : List Int} {a0 b0 a b : Nat} (h : Stl xs a0 b0 a b) (hs : Sw a b xs ys) : Stl ys a0 b0 a b := by
  refine ⟨h.ab, fun i j h1 h2 h3 h4 => ?_⟩
  have hab := h.ab
  rcases h4 with h4 | h4
  · rw [hs.out (k := i) (.inl h4)]
    by_cases e : a ≤ j ∧ j < b
    · exact hs.all (p := fun v => nat_ xs i ≤ v) (fun k k1 k2 => h.stl i k h1 (by omega) (by omega) (.inl h4)) j e.1 e.2
    · rw [hs.out (k := j) (by omega)]
      exact h.stl i j h1 h2 h3 (.inl h4)
  · rw [hs.out (k := j) (.inr h4)]
    by_cases e : a ≤ i ∧ i < b
    · exact hs.all (p := fun v => v ≤ nat_ xs j) (fun k k1 k2 => h.stl k j (by omega) (by omega) h3 (.inr h4)) i e.1 e.2
    · rw [hs.out (k := i) (by omega)]
      exact h.stl i j h1 h2 h3 (.inr h4)
theorem Stl.srt {xs : List Int} {a0 b0 a b : Nat} (h : Stl xs a0 b0 a b) (hs : Srt xs a b) : Srt xs a0 b0 := by
  intro i j h1 h2 h3
  by_cases e : i < a ∨ b ≤ j
  · exact h.stl i j h1 h2 h3 e
  · exact hs i j (by omega) h2 (by omega)
/-- the number ahead of the range is not greater than those in it -/
def Pre (xs : List Int) (a b : Nat) : Prop := ∀ k, 0 < a → a ≤ k → k < b → nat_ xs (a - 1) ≤ nat_ xs k
theorem Pre.sw {xs ys : List Int} {a b : Nat} (h : Pre xs a b) (hs : Sw a b xs ys) : Pre ys a b := by
  intro k h0 h1 h2
  rw [hs.out (k := a - 1) (.inl (by omega))]
  exact hs.all (p := fun v => nat_ xs (a - 1) ≤ v) (fun q q1 q2 => h q h0 q1 q2) k h1 h2
/-- the left part is sorted, the right one goes on -/
theorem Stl.right {xs : List Int} {a0 b0 a b m : Nat} (h : Stl xs a0 b0 a b) (hm : a ≤ m ∧ m < b) (hp : Parted xs a b m) (hs : Srt xs a m) : Stl xs a0 b0 (m + 1) b := by
  have hab := h.ab
  refine ⟨by omega, fun i j h1 h2 h3 h4 => ?_⟩
  by_cases e : i < a ∨ b ≤ j
  · exact h.stl i j h1 h2 h3 e
  · have hi : i < m + 1 := by omega
    by_cases e1 : j < m
    · exact hs i j (by omega) h2 e1
    · by_cases e2 : j = m
      · subst e2; exact hp.low i (by omega) h2
      · by_cases e3 : i = m
        · subst e3; exact hp.high j h2 (by omega)
        · have := hp.low i (by omega) (by omega)
          have := hp.high j (by omega) (by omega)
          omega
theorem Stl.left {xs : List Int} {a0 b0 a b m : Nat} (h : Stl xs a0 b0 a b) (hm : a ≤ m ∧ m < b) (hp : Parted xs a b m) (hs : Srt xs (m + 1) b) : Stl xs a0 b0 a m := by
  have hab := h.ab
  refine ⟨by omega, fun i j h1 h2 h3 h4 => ?_⟩
  by_cases e : i < a ∨ b ≤ j
  · exact h.stl i j h1 h2 h3 e
  · have hj : m ≤ j := by omega
    by_cases e1 : m + 1 ≤ i
    · exact hs i j e1 h2 (by omega)
    · by_cases e2 : i = m
      · subst e2; exact hp.high j h2 (by omega)
      · by_cases e3 : j = m
        · subst e3; exact hp.low i (by omega) h2
        · have := hp.low i (by omega) (by omega)
          have := hp.high j (by omega) (by omega)
          omega
theorem Pre.right {xs : List Int} {a b m : Nat} (hp : Parted xs a b m) : Pre xs (m + 1) b := fun k _ h1 h2 => by rw [Nat.add_sub_cancel]; exact hp.high k (by omega) h2
theorem Pre.left {xs : List Int} {a b m : Nat} (h : Pre xs a b) (hm : m < b) : Pre xs a m := fun k h0 h1 h2 => h k h0 h1 (by omega)
theorem Parted.sw_left {xs ys : List Int} {a b m : Nat} (h : Parted xs a b m) (hs : Sw a m xs ys) : Parted ys a b m := by
  refine ⟨fun k h1 h2 => ?_, fun k h1 h2 => ?_⟩
  · rw [hs.out (k := m) (.inr (Nat.le_refl _))]
    exact hs.all (p := fun v => v ≤ nat_ xs m) (fun q q1 q2 => h.low q q1 q2) k h1 h2
  · rw [hs.out (k := m) (.inr (Nat.le_refl _)), hs.out (k := k) (.inr (by omega))]
    exact h.high k h1 h2
theorem Parted.sw_right {xs ys : List Int} {a b m : Nat} (h : Parted xs a b m) (hs : Sw (m + 1) b xs ys) : Parted ys a b m := by
  refine ⟨fun k h1 h2 => ?_, fun k h1 h2 => ?_⟩
  · rw [hs.out (k := m) (.inl (by omega)), hs.out (k := k) (.inl (by omega))]
    exact h.low k h1 h2
  · rw [hs.out (k := m) (.inl (by omega))]
    exact hs.all (p := fun v => nat_ xs m ≤ v) (fun q q1 q2 => h.high q (by omega) q2) k (by omega) h2
/-- ones that equal the number ahead of the range are settled -/
theorem Stl.eq {xs : List Int} {a0 b0 a b i : Nat} (h : Stl xs a0 b0 a b) (hi : a < i ∧ i ≤ b) (he : Eqing xs a b i (i - 1)) (hmin : ∀ k, a ≤ k → k < b → nat_ xs a ≤ nat_ xs k) : Stl xs a0 b0 i b := by
  have hab := h.ab
  refine ⟨by omega, fun p q h1 h2 h3 h4 => ?_⟩
  by_cases e : p < a ∨ b ≤ q
  · exact h.stl p q h1 h2 h3 e
  · have hp : p < i := by omega
    have h5 := he.low p (by omega) hp
    have h6 := hmin q (by omega) (by omega)
    omega
theorem Pre.eq {xs : List Int} {a b i : Nat} (hi : a < i ∧ i ≤ b) (he : Eqing xs a b i (i - 1)) : Pre xs i b := by
  intro k h0 h1 h2
  have h3 := he.low (i - 1) (by omega) (by omega)
  have h4 := he.high k (by omega) h2
  omega
end SL
