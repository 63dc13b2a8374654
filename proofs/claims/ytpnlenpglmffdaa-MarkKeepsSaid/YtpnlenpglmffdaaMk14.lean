/-
  Contracts of slices.Clone, Insert, Delete of characters.
-/
import Derived.Test.YtpnlenpglmffdaaMk13
import Derived.Test.YtpnlenpglmffdaaSl17
set_option linter.unusedVariables false
set_option linter.unusedSimpArgs false
set_option maxRecDepth 10000

namespace SL
open Go Go.Proofs Go.RowKit
theorem put_at {cs new : List Value} {off : Nat} (h : off + new.length ≤ cs.length) : ∃ cs', PutAt cs off new cs' ∧ cs' = cs.take off ++ new ++ cs.drop (off + new.length) := ⟨_, ⟨h, rfl⟩, rfl⟩
theorem put_len {cs new cs' : List Value} {off : Nat} (h : PutAt cs off new cs') : cs'.length = cs.length := by
  have h1 := h.1
  rw [h.2]
  simp only [List.length_append, List.length_take, List.length_drop]
  omega
/-- what stands behind a put, place by place -/
theorem put_get {cs new cs' : List Value} {off : Nat} (h : PutAt cs off new cs') (j : Nat) : cs'[j]? = if off ≤ j ∧ j < off + new.length then new[j - off]? else cs[j]? := by
  have h1 := h.1
  rw [h.2]
  by_cases ha : j < off
  · rw [if_neg (by omega), List.append_assoc, List.getElem?_append_left (by simp; omega), List.getElem?_take_of_lt ha]
  · by_cases hb : j < off + new.length
    · rw [if_pos (by omega), List.append_assoc, List.getElem?_append_right (by simp; omega), List.getElem?_append_left (by simp; omega)]
      congr 1
      simp
      omega
    · rw [if_neg (by omega), List.getElem?_append_right (by simp; omega), List.getElem?_drop]
      congr 1
      simp
      omega
def ins (i : Nat) (c : Value) (cs : List Value) : List Value := cs.take i ++ c :: cs.drop i
theorem ins_len {i : Nat} {c : Value} {cs : List Value} (h : i ≤ cs.length) : (ins i c cs).length = cs.length + 1 := by
  simp [ins]; omega
theorem ins_get {i : Nat} {c : Value} {cs : List Value} (h : i ≤ cs.length) (j : Nat) : (ins i c cs)[j]? = if j < i then cs[j]? else if j = i then some c else cs[j - 1]? := by
  unfold ins
  by_cases h1 : j < i
  · rw [if_pos h1, List.getElem?_append_left (by simp; omega), List.getElem?_take_of_lt h1]
  · rw [if_neg h1, List.getElem?_append_right (by simp; omega)]
    have e : j - (cs.take i).length = j - i := by simp; omega
    rw [e]
    by_cases h2 : j = i
    · subst h2; simp
    · obtain ⟨m, hm⟩ : ∃ m, j = i + 1 + m := ⟨j - i - 1, by omega⟩
      subst hm
      rw [if_neg h2, show i + 1 + m - i = m + 1 from by omega, List.getElem?_cons_succ, List.getElem?_drop]
      congr 1
      omega
theorem ins_one {i : Nat} {c : Value} {cs : List Value} (hc : c.oneCell' = true) (h1 : ∀ v ∈ cs, v.oneCell' = true) : ∀ v ∈ ins i c cs, v.oneCell' = true := by
  intro v hv
  unfold ins at hv
  rcases List.mem_append.1 hv with h | h
  · exact h1 v (List.mem_of_mem_take h)
  · rcases List.mem_cons.1 h with h | h
    · subst h; exact hc
    · exact h1 v (List.mem_of_mem_drop h)
/-- two puts leave the row with the one that was inserted -/
theorem ins_fit {cs ex x1 x2 : List Value} {i : Nat} {c : Value} (hi : i ≤ cs.length) (p1 : PutAt (cs ++ ex) (i + 1) (cs.drop i) x1) (p2 : PutAt x1 i [c] x2) : ∃ ex', x2 = ins i c cs ++ ex' ∧ (ins i c cs ++ ex').length = (cs ++ ex).length := by
  have hl1 := p1.1
  rw [List.length_drop, List.length_append] at hl1
  have hl : x2.length = (cs ++ ex).length := by rw [put_len p2, put_len p1]
  have e : x2 = ins i c cs ++ x2.drop (cs.length + 1) := by
    apply List.ext_getElem?
    intro j
    by_cases hj : j < cs.length + 1
    · rw [List.getElem?_append_left (by rw [ins_len hi]; exact hj), ins_get hi, put_get p2, put_get p1]
      simp only [List.length_singleton, List.length_drop]
      by_cases h1 : j < i
      · rw [if_neg (by omega), if_neg (by omega), if_pos h1, List.getElem?_append_left (by omega)]
      · by_cases h2 : j = i
        · subst h2; simp
        · rw [if_neg (by omega), if_pos (by omega), if_neg h1, if_neg h2, List.getElem?_drop]
          congr 1
          omega
    · rw [List.getElem?_append_right (by rw [ins_len hi]; omega), ins_len hi, List.getElem?_drop]
      congr 1
      omega
  exact ⟨_, e, by rw [← e, hl]⟩
/-- the same where the row grew: zeros first, then the one, then the rest -/
theorem ins_grow {cs zs more x1 x2 : List Value} {i : Nat} {c : Value} (hi : i < cs.length) (hz : zs.length = cs.length + 1 - i) (p1 : PutAt (cs.take i ++ zs ++ more) i [c] x1) (p2 : PutAt x1 (i + 1) (cs.drop i) x2) : ∃ ex', x2 = ins i c cs ++ ex' ∧ (ins i c cs ++ ex').length = cs.length + 1 + more.length := by
  have hl : x2.length = cs.length + 1 + more.length := by
    rw [put_len p2, put_len p1]
    simp only [List.length_append, List.length_take, hz]
    omega
  have e : x2 = ins i c cs ++ x2.drop (cs.length + 1) := by
    apply List.ext_getElem?
    intro j
    by_cases hj : j < cs.length + 1
    · rw [List.getElem?_append_left (by rw [ins_len (by omega)]; exact hj), ins_get (by omega), put_get p2, put_get p1]
      simp only [List.length_singleton, List.length_drop]
      by_cases h1 : j < i
      · rw [if_neg (by omega), if_neg (by omega), if_pos h1, List.append_assoc, List.getElem?_append_left (by simp; omega), List.getElem?_take_of_lt h1]
      · by_cases h2 : j = i
        · subst h2; simp; omega
        · rw [if_pos (by omega), if_neg h1, if_neg h2, List.getElem?_drop]
          congr 1
          omega
    · rw [List.getElem?_append_right (by rw [ins_len (by omega)]; omega), ins_len (by omega), List.getElem?_drop]
      congr 1
      omega
  exact ⟨_, e, by rw [← e, hl]⟩
theorem drop_cut {cs ex : List Value} {i m : Nat} (hm : m = cs.length - i) : Cut (cs ++ ex) i m (cs.drop i) := Cut.intro (by simp [hm]) fun j v hj => by
  have hl := (List.getElem?_eq_some_iff.1 hj).1
  simp only [List.length_drop] at hl
  rw [List.getElem?_drop] at hj
  rw [List.getElem?_append_left (by omega)]
  exact hj
theorem take_cut {cs ex : List Value} {i : Nat} (hi : i ≤ cs.length) : Cut (cs ++ ex) 0 i (cs.take i) := Cut.intro (by simp; omega) fun j v hj => by
  have hl := (List.getElem?_eq_some_iff.1 hj).1
  simp only [List.length_take] at hl
  rw [List.getElem?_take_of_lt (by omega)] at hj
  rw [Nat.zero_add, List.getElem?_append_left (by omega)]
  exact hj
/-- what is left where one was taken out -/
def era (i : Nat) (cs : List Value) : List Value := cs.take i ++ cs.drop (i + 1)
theorem era_len {i : Nat} {cs : List Value} (h : i < cs.length) : (era i cs).length = cs.length - 1 := by simp [era]; omega
theorem era_one {i : Nat} {cs : List Value} (h1 : ∀ v ∈ cs, v.oneCell' = true) : ∀ v ∈ era i cs, v.oneCell' = true := by
  intro v hv
  rcases List.mem_append.1 hv with h | h
  · exact h1 v (List.mem_of_mem_take h)
  · exact h1 v (List.mem_of_mem_drop h)
theorem era_fit {cs ex x1 x2 z : List Value} {i : Nat} (hi : i < cs.length) (hz : z.length = 1) (p1 : PutAt (cs ++ ex) i (cs.drop (i + 1)) x1) (p2 : PutAt x1 (cs.length - 1) z x2) : ∃ ex', x2 = era i cs ++ ex' ∧ (era i cs ++ ex').length = (cs ++ ex).length := by
  have hl : x2.length = (cs ++ ex).length := by rw [put_len p2, put_len p1]
  have e : x2 = era i cs ++ x2.drop (cs.length - 1) := by
    apply List.ext_getElem?
    intro j
    by_cases hj : j < cs.length - 1
    · rw [List.getElem?_append_left (by rw [era_len hi]; exact hj), put_get p2, put_get p1, if_neg (by omega)]
      unfold era
      simp only [List.length_drop]
      by_cases h1 : j < i
      · rw [if_neg (by omega), List.getElem?_append_left (by omega), List.getElem?_append_left (by simp; omega), List.getElem?_take_of_lt h1]
      · rw [if_pos (by omega), List.getElem?_append_right (by simp; omega)]
        congr 1
        simp
        omega
    · rw [List.getElem?_append_right (by rw [era_len hi]; omega), era_len hi, List.getElem?_drop]
      congr 1
      omega
  exact ⟨_, e, by rw [← e, hl]⟩
end SL
