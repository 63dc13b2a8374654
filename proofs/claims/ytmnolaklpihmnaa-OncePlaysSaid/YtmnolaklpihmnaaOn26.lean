/-
  The reference's Set: the plain law of its loop.
-/
import Derived.Test.YtmnolaklpihmnaaOn25
set_option linter.unusedVariables false
set_option linter.unusedSimpArgs false
set_option maxRecDepth 10000

namespace SL
open Go Go.Proofs Go.RowKit
theorem oins_app_lt {q : Int} {v : OV} {p : Int × OV} : ∀ {A : OT}, (∀ x ∈ A, x.1 < q) → q ≤ p.1 → oins q v (A ++ [p]) = A ++ [(q, v)] ++ (if p.1 = q then [] else [p])
  | [], _, hp => by
    simp only [List.nil_append, oins]
    by_cases h2 : p.1 = q
    · rw [if_neg (by omega), if_pos h2, if_pos h2]
      rfl
    · rw [if_neg (by omega), if_neg h2, if_neg h2]
      rfl
  | x :: A, h, hp => by
    have hx := h x (List.mem_cons_self ..)
    simp only [List.cons_append, oins]
    rw [if_pos hx, oins_app_lt (fun y hy => h y (List.mem_cons_of_mem _ hy)) hp]
theorem oins_app_ge {q : Int} {v : OV} {p : Int × OV} : ∀ {A : OT}, (∃ x ∈ A, q ≤ x.1) → oins q v (A ++ [p]) = oins q v A ++ [p]
  | [], h => by obtain ⟨x, hx, _⟩ := h; simp at hx
  | x :: A, h => by
    simp only [List.cons_append, oins]
    by_cases h1 : x.1 < q
    · rw [if_pos h1, if_pos h1]
      have : ∃ y ∈ A, q ≤ y.1 := by
        obtain ⟨y, hy, hq⟩ := h
        rcases List.mem_cons.1 hy with rfl | hy
        · omega
        · exact ⟨y, hy, hq⟩
      rw [oins_app_ge this]
      rfl
    · rw [if_neg h1, if_neg h1]
      split <;> simp
/-- the new row after i entries -/
structure SetI (T : OT) (q : Int) (v : OV) (i : Nat) (put : Bool) (acc : OT) : Prop where
  no : put = false → acc = T.take i ∧ ∀ x ∈ T.take i, x.1 < q
  yes : put = true → acc = oins q v (T.take i) ∧ ∃ x ∈ T.take i, q ≤ x.1
theorem SetI.zero (T : OT) (q : Int) (v : OV) : SetI T q v 0 false [] := ⟨fun _ => ⟨by simp, by simp⟩, fun h => by cases h⟩
theorem take_succ' {T : OT} {i : Nat} (hi : i < T.length) : T.take (i + 1) = T.take i ++ [T[i]] := by rw [List.take_add_one, List.getElem?_eq_getElem hi]; rfl
/-- an entry ahead of the client -/
theorem SetI.lt {T : OT} {q : Int} {v : OV} {i : Nat} {acc : OT} (h : SetI T q v i false acc) (hi : i < T.length) (hq : T[i].1 < q) : SetI T q v (i + 1) false (acc ++ [T[i]]) := by
  obtain ⟨h1, h2⟩ := h.no rfl
  refine ⟨fun _ => ⟨by rw [h1, take_succ' hi], fun x hx => ?_⟩, fun h => by cases h⟩
  rw [take_succ' hi] at hx
  rcases List.mem_append.1 hx with hx | hx
  · exact h2 x hx
  · simp at hx; subst hx; exact hq
/-- the client's own entry -/
theorem SetI.eq {T : OT} {q : Int} {v : OV} {i : Nat} {acc : OT} (h : SetI T q v i false acc) (hi : i < T.length) (hq : T[i].1 = q) : SetI T q v (i + 1) true (acc ++ [(q, v)]) := by
  obtain ⟨h1, h2⟩ := h.no rfl
  refine ⟨fun h => (by cases h), fun _ => ⟨?_, T[i], by rw [take_succ' hi]; exact List.mem_append_right _ (List.mem_singleton.2 rfl), by omega⟩⟩
  rw [take_succ' hi, oins_app_lt h2 (by omega), if_pos hq, h1]
  simp
/-- the first one behind the client -/
theorem SetI.gt {T : OT} {q : Int} {v : OV} {i : Nat} {acc : OT} (h : SetI T q v i false acc) (hi : i < T.length) (hq : q < T[i].1) : SetI T q v (i + 1) true (acc ++ [(q, v)] ++ [T[i]]) := by
  obtain ⟨h1, h2⟩ := h.no rfl
  refine ⟨fun h => (by cases h), fun _ => ⟨?_, T[i], by rw [take_succ' hi]; exact List.mem_append_right _ (List.mem_singleton.2 rfl), by omega⟩⟩
  rw [take_succ' hi, oins_app_lt h2 (by omega), if_neg (by omega), h1]
/-- those behind -/
theorem SetI.on {T : OT} {q : Int} {v : OV} {i : Nat} {acc : OT} (h : SetI T q v i true acc) (hi : i < T.length) : SetI T q v (i + 1) true (acc ++ [T[i]]) := by
  obtain ⟨h1, x, hx, hq⟩ := h.yes rfl
  refine ⟨fun h => (by cases h), fun _ => ⟨?_, x, by rw [take_succ' hi]; exact List.mem_append_left _ hx, hq⟩⟩
  rw [take_succ' hi, oins_app_ge ⟨x, hx, hq⟩, h1]
theorem SetI.behind {T : OT} {q : Int} {v : OV} {i : Nat} {acc : OT} (h : SetI T q v i true acc) (hT : ORise T) (hi : i < T.length) : q < T[i].1 := by
  obtain ⟨_, x, hx, hq⟩ := h.yes rfl
  have hr : ORise (T.take i ++ [T[i]]) := by
    rw [← take_succ' hi]
    unfold ORise at hT ⊢
    rw [List.map_take]
    exact hT.sublist (List.take_sublist _ _)
  unfold ORise at hr
  rw [List.map_append, List.pairwise_append] at hr
  have := hr.2.2 x.1 (List.mem_map.2 ⟨x, hx, rfl⟩) T[i].1 (by simp)
  omega
theorem SetI.end_ {T : OT} {q : Int} {v : OV} {put : Bool} {acc : OT} (h : SetI T q v T.length put acc) : (if put then acc else acc ++ [(q, v)]) = oins q v T := by
  cases put with
  | true =>
    have := (h.yes rfl).1
    rw [List.take_length] at this
    simpa using this
  | false =>
    obtain ⟨h1, h2⟩ := h.no rfl
    rw [List.take_length] at h1 h2
    rw [oins_last h2, h1]
    simp
theorem SetI.len {T : OT} {q : Int} {v : OV} {i : Nat} {put : Bool} {acc : OT} (h : SetI T q v i put acc) (hT : T.length ≤ 16) : acc.length ≤ 17 := by
  cases put with
  | false =>
    rw [(h.no rfl).1, List.length_take]; omega
  | true =>
    rw [(h.yes rfl).1]
    have key : ∀ A : OT, (oins q v A).length ≤ A.length + 1 := by
      intro A
      induction A with
      | nil => simp [oins]
      | cons p A ih =>
        simp only [oins]
        split
        · simp; omega
        · split <;> simp
    have := key (T.take i)
    rw [List.length_take] at this
    omega
end SL
