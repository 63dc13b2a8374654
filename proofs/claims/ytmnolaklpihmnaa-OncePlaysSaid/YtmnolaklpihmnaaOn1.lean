/-
  Numbers and bytes as the wire lays them, in plain terms: laying and reading a number, a reader's steps.
-/
import Derived.Test.YtmnolaklpihmnaaSl16
set_option linter.unusedVariables false
set_option linter.unusedSimpArgs false
namespace SL
open Go

/-! ### numbers -/
def putF : Nat → Nat → List UInt8
  | 0, n => [UInt8.ofNat n]
  | f + 1, n => if n < 128 then [UInt8.ofNat n] else UInt8.ofNat (n % 128 + 128) :: putF f (n / 128)
/-- a number's bytes -/
def putN (n : Nat) : List UInt8 := putF 9 n
/-- f: how many bytes may still come; i: which byte is next; n: the number so far -/
def getG : Nat → List UInt8 → Nat → Nat → Nat × Nat × Int
  | 0, _, _, _ => (0, 0, 5)
  | _ + 1, [], _, _ => (0, 0, 4)
  | f + 1, c :: r, i, n => if 128 ≤ c.toNat then getG f r (i + 1) (n + (c.toNat - 128) * 128 ^ i)
    else if (c.toNat = 0 ∧ 0 < i) ∨ (i = 9 ∧ 1 < c.toNat) then (0, 0, 5) else (n + c.toNat * 128 ^ i, i + 1, 0)
/-- the number that bytes begin with, how many bytes it has, the error -/
def getN (b : List UInt8) : Nat × Nat × Int := getG 10 b 0 0
theorem putF_ne (f n : Nat) : putF f n ≠ [] := by
  cases f with
  | zero => simp [putF]
  | succ f => simp only [putF]; split <;> simp
theorem putF_len (f n : Nat) : 1 ≤ (putF f n).length := by
  have := putF_ne f n
  cases h : putF f n with
  | nil => exact absurd h this
  | cons => simp
theorem putF_le : ∀ (f n : Nat), (putF f n).length ≤ f + 1
  | 0, n => by simp [putF]
  | f + 1, n => by
    simp only [putF]
    split
    · simp
    · have := putF_le f (n / 128)
      simp; omega
theorem putN_len (n : Nat) : 1 ≤ (putN n).length ∧ (putN n).length ≤ 10 := ⟨putF_len 9 n, putF_le 9 n⟩
theorem pow128 (i : Nat) : (128 : Nat) ^ (i + 1) = 128 * 128 ^ i := by rw [Nat.pow_succ, Nat.mul_comm]
theorem u8n {n : Nat} (h : n < 256) : (UInt8.ofNat n).toNat = n := by
  rw [UInt8.toNat_ofNat']; exact Nat.mod_eq_of_lt h
/-- of a number's bytes the number is read; behind them anything may stand -/
theorem getG_put : ∀ (f i m acc : Nat) (r : List UInt8), f + i = 9 → m < 2 * 128 ^ f → (0 < i → 0 < m) →
    getG (f + 1) (putF f m ++ r) i acc = (acc + m * 128 ^ i, i + (putF f m).length, 0)
  | 0, i, m, acc, r, hf, hm, h0 => by
    have hm2 : m < 2 := by simpa using hm
    have hu := u8n (n := m) (by omega)
    simp only [putF, List.cons_append, List.nil_append, getG, hu]
    rw [if_neg (by omega), if_neg (by omega)]
    simp
  | f + 1, i, m, acc, r, hf, hm, h0 => by
    simp only [putF]
    split
    · rename_i hlt
      have hu := u8n (n := m) (by omega)
      simp only [List.cons_append, List.nil_append, getG, hu]
      rw [if_neg (by omega), if_neg (by omega)]
      simp
    · rename_i hlt
      have hu := u8n (n := m % 128 + 128) (by omega)
      simp only [List.cons_append, getG, hu]
      rw [if_pos (by omega)]
      have hp := pow128 f
      have := getG_put f (i + 1) (m / 128) (acc + (m % 128 + 128 - 128) * 128 ^ i) r (by omega) (by rw [hp] at hm; omega) (fun _ => by omega)
      rw [this]
      have e : (m % 128 + 128 - 128) = m % 128 := by omega
      rw [e, pow128]
      have e1 : acc + m % 128 * 128 ^ i + m / 128 * (128 * 128 ^ i) = acc + m * 128 ^ i := by
        rw [Nat.add_assoc, ← Nat.mul_assoc, ← Nat.add_mul]
        have : m % 128 + m / 128 * 128 = m := by omega
        rw [this]
      rw [e1]
      have e2 : i + 1 + (putF f (m / 128)).length = i + (UInt8.ofNat (m % 128 + 128) :: putF f (m / 128)).length := by simp only [List.length_cons]; omega
      rw [e2]
theorem getN_put {n : Nat} (h : n < 18446744073709551616) (r : List UInt8) : getN (putN n ++ r) = (n, (putN n).length, 0) := by
  have := getG_put 9 0 n 0 r rfl (by simpa using h) (by omega)
  simpa [getN, putN] using this
/-- of a number's bytes a beginning is too short -/
theorem getG_cut : ∀ (f i m acc k : Nat), k < (putF f m).length → getG (f + 1) ((putF f m).take k) i acc = (0, 0, 4)
  | 0, i, m, acc, k, hk => by
    have : k = 0 := by simp [putF] at hk; exact hk
    subst this
    rfl
  | f + 1, i, m, acc, 0, hk => by simp [getG]
  | f + 1, i, m, acc, k + 1, hk => by
    simp only [putF] at hk ⊢
    split at hk
    · simp at hk
    · rename_i hlt
      rw [if_neg hlt]
      have hu := u8n (n := m % 128 + 128) (by omega)
      simp only [List.take_succ_cons, getG, hu]
      rw [if_pos (by omega)]
      have := getG_cut f (i + 1) (m / 128) (acc + (m % 128 + 128 - 128) * 128 ^ i) k (by simpa using hk)
      simpa [getG] using this
theorem getN_cut {n k : Nat} (h : k < (putN n).length) : getN ((putN n).take k) = (0, 0, 4) := getG_cut 9 0 n 0 k h
/-- what was read is a number's bytes -/
theorem getG_ok : ∀ (f i acc : Nat) (b : List UInt8) (n s : Nat), f + i = 9 → getG (f + 1) b i acc = (n, s, 0) →
    ∃ m, n = acc + m * 128 ^ i ∧ m < 2 * 128 ^ f ∧ (0 < i → 0 < m) ∧ s = i + (putF f m).length ∧ b = putF f m ++ b.drop (s - i)
  | f, i, acc, [], n, s, hf, h => by simp [getG] at h
  | 0, i, acc, c :: r, n, s, hf, h => by
    simp only [getG] at h
    split at h
    · simp at h
    · split at h
      · simp at h
      · rename_i h1 h2
        simp only [Prod.mk.injEq, and_true] at h
        obtain ⟨rfl, rfl⟩ := h
        refine ⟨c.toNat, rfl, by simp; omega, by omega, by simp [putF], ?_⟩
        have : i + 1 - i = 1 := by omega
        rw [this]
        simp [putF]
  | f + 1, i, acc, c :: r, n, s, hf, h => by
    simp only [getG] at h
    split at h
    · rename_i h1
      have hlt := UInt8.toNat_lt c
      obtain ⟨m, e1, e2, e3, e4, e5⟩ := getG_ok f (i + 1) _ r n s (by omega) (by simpa [getG] using h)
      have e3 := e3 (by omega)
      have hdiv : (c.toNat - 128 + 128 * m) / 128 = m := by omega
      have hmod : (c.toNat - 128 + 128 * m) % 128 + 128 = c.toNat := by omega
      have hput : putF (f + 1) (c.toNat - 128 + 128 * m) = c :: putF f m := by
        simp only [putF]
        rw [if_neg (by omega), hdiv, hmod]
        simp
      refine ⟨c.toNat - 128 + 128 * m, ?_, ?_, by omega, ?_, ?_⟩
      · rw [e1, pow128, Nat.add_assoc, ← Nat.mul_assoc, ← Nat.add_mul]
        have : c.toNat - 128 + m * 128 = c.toNat - 128 + 128 * m := by omega
        rw [this]
      · rw [pow128]; omega
      · rw [hput, e4]; simp; omega
      · rw [hput]
        have hs : s - i = (s - (i + 1)) + 1 := by omega
        rw [hs, List.drop_succ_cons, List.cons_append, ← e5]
    · split at h
      · simp at h
      · rename_i h1 h2
        simp only [Prod.mk.injEq, and_true] at h
        obtain ⟨rfl, rfl⟩ := h
        have hput : putF (f + 1) c.toNat = [c] := by
          simp only [putF]
          rw [if_pos (by omega)]
          simp
        have hp : 1 ≤ 128 ^ f := Nat.one_le_pow _ _ (by omega)
        refine ⟨c.toNat, rfl, by rw [pow128]; omega, by omega, by rw [hput]; rfl, ?_⟩
        have : i + 1 - i = 1 := by omega
        rw [hput, this]
        simp
theorem getN_ok {b : List UInt8} {n s : Nat} (h : getN b = (n, s, 0)) : n < 18446744073709551616 ∧ s = (putN n).length ∧ b = putN n ++ b.drop s := by
  obtain ⟨m, e1, e2, _, e4, e5⟩ := getG_ok 9 0 0 b n s rfl h
  simp only [Nat.pow_zero, Nat.mul_one, Nat.zero_add] at e1 e4
  subst e1
  exact ⟨by simpa using e2, e4, e5⟩
theorem getG_err : ∀ (f i acc : Nat) (b : List UInt8) (n s : Nat) (e : Int), getG f b i acc = (n, s, e) → (e = 0 ∨ (n = 0 ∧ s = 0 ∧ (e = 4 ∨ e = 5)))
  | 0, _, _, _, n, s, e, h => by simp [getG] at h; omega
  | _ + 1, _, _, [], n, s, e, h => by simp [getG] at h; omega
  | f + 1, i, acc, c :: r, n, s, e, h => by
    simp only [getG] at h
    split at h
    · exact getG_err f _ _ r n s e h
    · split at h <;> simp at h <;> omega
theorem getN_err {b : List UInt8} {n s : Nat} {e : Int} (h : getN b = (n, s, e)) : e = 0 ∨ (n = 0 ∧ s = 0 ∧ (e = 4 ∨ e = 5)) := getG_err _ _ _ _ _ _ _ h
theorem getG_len : ∀ (f i acc : Nat) (b : List UInt8) (n s : Nat), getG f b i acc = (n, s, 0) → i < s ∧ s ≤ i + b.length ∧ s ≤ i + f
  | 0, _, _, _, n, s, h => by simp [getG] at h
  | _ + 1, _, _, [], n, s, h => by simp [getG] at h
  | f + 1, i, acc, c :: r, n, s, h => by
    simp only [getG] at h
    split at h
    · have := getG_len f _ _ r n s h
      simp; omega
    · split at h
      · simp at h
      · simp at h; simp; omega
theorem getN_len {b : List UInt8} {n s : Nat} (h : getN b = (n, s, 0)) : 0 < s ∧ s ≤ b.length := by
  have := getG_len _ _ _ _ _ _ h
  omega

/-! ### a reader -/
/-- what is left, and the first error -/
abbrev RdS := List UInt8 × Int
def rFail (e : Int) (s : RdS) : RdS := (s.1, if s.2 = 0 then e else s.2)
def rNum (s : RdS) : Nat × RdS := if s.2 = 0 then (if (getN s.1).2.2 = 0 then ((getN s.1).1, s.1.drop (getN s.1).2.1, 0) else (0, s.1, (getN s.1).2.2)) else (0, s)
def rUpto (most : Nat) (s : RdS) : Nat × RdS := if most < (rNum s).1 then (0, rFail 3 (rNum s).2) else rNum s
def rBytes (most : Nat) (s : RdS) : List UInt8 × RdS :=
  if (rUpto most s).2.2 = 0 then (if (rUpto most s).2.1.length < (rUpto most s).1 then ([], (rUpto most s).2.1, 4) else ((rUpto most s).2.1.take (rUpto most s).1, (rUpto most s).2.1.drop (rUpto most s).1, 0)) else ([], (rUpto most s).2)
def rEnd (s : RdS) : RdS := if s.2 = 0 ∧ 0 < s.1.length then (s.1, 3) else s
end SL
