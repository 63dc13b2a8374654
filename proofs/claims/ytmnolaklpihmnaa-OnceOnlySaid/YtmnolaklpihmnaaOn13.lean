/-
  OnceOnly: the law's own maps, in plain terms.
-/
import Derived.Test.YtmnolaklpihmnaaOn12
set_option linter.unusedVariables false
set_option linter.unusedSimpArgs false
set_option maxRecDepth 10000
namespace SL
open Go Go.Proofs Go.RowKit
/-- the law's map of last requests -/
structure LaR (l : List (Int × Value)) (T : OT) : Prop where
  get : ∀ q, SL.get q l = (olk q T).map fun v => .int .u64 ((v.1 : Nat) : Int)
  len : l.length = T.length
/-- the law's map of all that was set -/
structure SeR (g : Hp) (S : List (OK2 × Value)) (T : OT) : Prop where
  old : ∀ (q : Int) (n : Nat), (SL.get ((q, (n : Int)) : OK2) S).isSome = true → ∃ v, olk q T = some v ∧ n ≤ v.1
  now : ∀ (q : Int) (v : OV), olk q T = some v → ∃ a c, SL.get ((q, (v.1 : Int)) : OK2) S = some (.slice a v.2.length c) ∧ RdG g a (v.2.map byteV) ∧ v.2.length ≤ c
theorem get_upd' {κ : Type} [DecidableEq κ] (q x : κ) (v : Value) : ∀ l : List (κ × Value), SL.get x (upd q v l) = if q = x then some v else SL.get x l
  | [] => by simp [upd, SL.get]
  | p :: l => by
    simp only [upd]
    split
    · rename_i h
      by_cases e : q = x
      · simp [SL.get, e]
      · simp only [SL.get, if_neg e]
        rw [if_neg (fun c => e (h ▸ c))]
    · rename_i h
      simp only [SL.get, get_upd' q x v l]
      by_cases e : p.1 = x
      · rw [if_pos e, if_pos e, if_neg (fun c => h (e.trans c.symm))]
      · rw [if_neg e, if_neg e]
theorem upd_len {κ : Type} [DecidableEq κ] (q : κ) (v : Value) : ∀ l : List (κ × Value), (upd q v l).length = if (SL.get q l).isSome then l.length else l.length + 1
  | [] => by simp [upd, SL.get]
  | p :: l => by
    simp only [upd]
    by_cases h : p.1 = q
    · rw [if_pos h]
      have : SL.get q (p :: l) = some p.2 := by simp only [SL.get]; rw [if_pos h]
      rw [this]
      simp
    · rw [if_neg h]
      have : SL.get q (p :: l) = SL.get q l := by simp only [SL.get]; rw [if_neg h]
      rw [this, List.length_cons, upd_len q v l]
      split <;> simp
theorem LaR.nil : LaR [] [] := ⟨fun q => rfl, rfl⟩
theorem SeR.nil (g : Hp) : SeR g [] [] := ⟨fun q n h => by simp [SL.get] at h, fun q v h => by simp [olk] at h⟩
theorem LaR.ins {l : List (Int × Value)} {T : OT} (h : LaR l T) (hT : ORise T) (q : Int) (v : OV) : LaR (upd q (.int .u64 ((v.1 : Nat) : Int)) l) (oins q v T) := by
  refine ⟨fun x => ?_, ?_⟩
  · rw [get_upd', olk_ins]
    split
    · rfl
    · exact h.get x
  · rw [upd_len, oins_len hT, h.get q, h.len]
    simp
theorem SeR.ins {g g' : Hp} {S : List (OK2 × Value)} {T : OT} (h : SeR g S T) (hg : HLe g g') {q : Int} {v : OV} (hf : ∀ w, olk q T = some w → w.1 < v.1) {a : Option Addr} {c : Nat} (hr : RdG g' a (v.2.map byteV)) (hc : v.2.length ≤ c) :
    SeR g' (upd ((q, (v.1 : Int)) : OK2) (.slice a v.2.length c) S) (oins q v T) := by
  refine ⟨fun x n hx => ?_, fun x w hx => ?_⟩
  · rw [get_upd'] at hx
    rw [olk_ins]
    by_cases e : q = x
    · rw [if_pos e]
      subst e
      refine ⟨v, rfl, ?_⟩
      split at hx
      · rename_i e
        simp only [Prod.mk.injEq] at e
        omega
      · obtain ⟨w, h1, h2⟩ := h.old q n hx
        have := hf w h1
        omega
    · rw [if_neg e]
      rw [if_neg (fun c => e (by simp only [Prod.mk.injEq] at c; exact c.1))] at hx
      exact h.old x n hx
  · rw [olk_ins] at hx
    rw [get_upd']
    by_cases e : q = x
    · rw [if_pos e] at hx
      simp only [Option.some.injEq] at hx
      subst hx
      exact ⟨a, c, by rw [if_pos (by rw [e])], hr, hc⟩
    · rw [if_neg e] at hx
      rw [if_neg (fun c => e (by simp only [Prod.mk.injEq] at c; exact c.1))]
      obtain ⟨a', c', h1, h2, h3⟩ := h.now x w hx
      exact ⟨a', c', h1, h2.le hg, h3⟩
end SL
