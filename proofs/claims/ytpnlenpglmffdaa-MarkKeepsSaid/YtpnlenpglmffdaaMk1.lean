/-
  Units and rows of units: what they are in memory, and what a row does, in plain Lean.
-/
import Derived.Test.YtpnlenpglmffdaaTy
set_option linter.unusedVariables false
set_option linter.unusedSimpArgs false
namespace SL
open Go Go.Proofs Go.RowKit

structure Un where
  kind : Int
  pos : Int
  char : Int
  c : Int
  rq : Int
def unV (u : Un) : List Value := [.int .i64 u.kind, .int .i64 u.pos, .int .i32 u.char, .int .u32 u.c, .int .u64 u.rq]
def I64 (i : Int) : Prop := -9223372036854775808 ≤ i ∧ i ≤ 9223372036854775807
/-- the slice (a, ..) of the units us may be read in X -/
structure RowX (X : HProp) (a : Option Addr) (us : List Un) : Prop where
  nil : a = none → us = []
  at_ : ∀ q, a = some q → ∀ i u, us[i]? = some u → RdA X (q.add (i * 5)) (unV u)
theorem RowX.take {X : HProp} {a : Option Addr} {us : List Un} (h : RowX X a us) (m : Nat) : RowX X a (us.take m) :=
  ⟨fun e => by rw [h.nil e]; simp, fun q e i u hi => h.at_ q e i u (by
    by_cases hm : i < m
    · rwa [List.getElem?_take_of_lt hm] at hi
    · rw [List.getElem?_eq_none (by simp; omega)] at hi; cases hi)⟩
theorem RowX.drop {X : HProp} {q : Addr} {us : List Un} (h : RowX X (some q) us) (m : Nat) : RowX X (some (q.add (m * 5))) (us.drop m) :=
  ⟨fun e => (by cases e), fun q' e i u hi => by
    cases e
    rw [add_add, ← Nat.add_mul]
    exact h.at_ q rfl (m + i) u (by rw [← List.getElem?_drop]; exact hi)⟩
theorem RowX.empty {X : HProp} {a : Option Addr} : RowX X a [] := ⟨fun _ => rfl, fun q e i u hi => by simp at hi⟩

def mayC (c : Int) : Bool := decide (0 ≤ c) && decide (c ≤ 1114111) && (decide (c < 55296) || decide (57343 < c))
def mayU (u : Un) : Bool := if u.kind = 0 then decide (u.pos = 0) && decide (u.char = 0) else if u.kind = 1 ∨ u.kind = 2 then decide (0 ≤ u.pos) && mayC u.char else false
def fitsU (u : Un) (n : Int) : Bool := mayU u && decide (0 ≤ n) && (decide (u.kind = 0) || (decide (u.kind = 1) && decide (u.pos ≤ n)) || (decide (u.kind = 2) && decide (u.pos < n)))
def goU (u : Un) (n : Int) : Int := if u.kind = 1 then n + 1 else if u.kind = 2 then n - 1 else n
def longU : List Un → Int → Option Int
  | [], n => some n
  | u :: us, n => if fitsU u n then longU us (goU u n) else none
/-- what Long answers: the length, and the error -/
def longR (us : List Un) (n : Int) : Int × Int := if n < 0 ∨ us.any (fun u => !mayU u) = true then (0, 1) else match longU us n with
  | some m => (m, 0)
  | none => (0, 30)
def plU (p : Int) (u : Un) : Int := if u.kind = 1 ∧ u.pos ≤ p then p + 1 else if u.kind = 2 ∧ u.pos < p then p - 1 else p
def placeU (p : Int) (us : List Un) : Int := us.foldl plU p
theorem plU_bound (p : Int) (u : Un) : p - 1 ≤ plU p u ∧ plU p u ≤ p + 1 := by unfold plU; split <;> (try split) <;> omega
theorem placeU_bound (us : List Un) : ∀ p, p - us.length ≤ placeU p us ∧ placeU p us ≤ p + us.length := by
  induction us with
  | nil => intro p; simp [placeU]
  | cons u us ih =>
    intro p
    have h1 := plU_bound p u
    have h2 := ih (plU p u)
    simp only [placeU, List.foldl_cons, List.length_cons] at h2 ⊢
    omega
theorem placeU_append (p : Int) (a b : List Un) : placeU p (a ++ b) = placeU (placeU p a) b := by simp [placeU]
theorem placeU_snoc (p : Int) (a : List Un) (u : Un) : placeU p (a ++ [u]) = plU (placeU p a) u := by simp [placeU]
theorem longU_append (a b : List Un) : ∀ n, longU (a ++ b) n = (longU a n).bind (longU b) := by
  induction a with
  | nil => intro n; rfl
  | cons u a ih =>
    intro n
    simp only [List.cons_append, longU]
    split
    · exact ih _
    · rfl
theorem longU_bound (us : List Un) : ∀ n m, longU us n = some m → 0 ≤ n → 0 ≤ m ∧ m ≤ n + us.length := by
  induction us with
  | nil => intro n m h; simp [longU] at h; subst h; simp
  | cons u us ih =>
    intro n m h hn
    simp only [longU] at h
    split at h
    · rename_i hf
      have h0 : 0 ≤ goU u n := by
        simp [fitsU, mayU] at hf
        unfold goU
        split
        · omega
        · split
          · rename_i h1 h2
            simp [h2] at hf
            omega
          · exact hn
      have := ih _ _ h h0
      have hg : goU u n ≤ n + 1 := by unfold goU; split <;> (try split) <;> omega
      simp only [List.length_cons]
      omega
    · cases h
theorem fits_may {us : List Un} : ∀ {n m}, longU us n = some m → us.any (fun u => !mayU u) = false := by
  induction us with
  | nil => intro n m h; rfl
  | cons u us ih =>
    intro n m h
    simp only [longU] at h
    split at h
    · rename_i hf
      have : mayU u = true := by simp [fitsU] at hf; exact hf.1.1
      simp only [List.any_cons, this]
      simpa using ih h
    · cases h
/-- a place that lies within stays within -/
theorem plU_within {u : Un} {n p : Int} (hf : fitsU u n = true) (hp : 0 ≤ p ∧ p ≤ n) : 0 ≤ plU p u ∧ plU p u ≤ goU u n := by
  simp [fitsU, mayU] at hf
  unfold plU goU
  split
  · rename_i h; simp [h.1]; omega
  · rename_i h1
    split
    · rename_i h; simp [h.1] at hf ⊢; omega
    · rename_i h2
      split
      · rename_i h3; omega
      · split
        · rename_i h3 h4; simp [h4] at hf h2; omega
        · omega
theorem placeU_within : ∀ {us : List Un} {n m p : Int}, longU us n = some m → 0 ≤ p ∧ p ≤ n → 0 ≤ placeU p us ∧ placeU p us ≤ m := by
  intro us
  induction us with
  | nil => intro n m p h hp; simp [longU] at h; subst h; simpa [placeU] using hp
  | cons u us ih =>
    intro n m p h hp
    simp only [longU] at h
    split at h
    · rename_i hf
      exact ih h (plU_within hf hp)
    · cases h
theorem plU_mono {u : Un} {p q : Int} (h : p ≤ q) : plU p u ≤ plU q u := by
  unfold plU
  split <;> split <;> (try split) <;> omega
theorem placeU_mono : ∀ {us : List Un} {p q : Int}, p ≤ q → placeU p us ≤ placeU q us := by
  intro us
  induction us with
  | nil => intro p q h; simpa [placeU] using h
  | cons u us ih => intro p q h; exact ih (plU_mono h)
end SL
