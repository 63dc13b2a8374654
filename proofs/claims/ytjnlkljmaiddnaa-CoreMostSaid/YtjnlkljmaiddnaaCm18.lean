/-
  Contract of the law's come, whole.
-/
import Derived.Test.YtjnlkljmaiddnaaCm15
import Derived.Test.YtjnlkljmaiddnaaCm17
set_option linter.unusedVariables false
set_option linter.unusedSimpArgs false
set_option maxRecDepth 10000

namespace SL
open Go Go.Proofs Go.RowKit
theorem gx_out {gb : Nat} {l : List (Nat × Cs)} {bag : List (Nat × Mg)} {a : Option Addr} {cmd : List UInt8} : ∀ h, seps [GroupX gb l bag a cmd] h → GroupAt gb l bag h := fun h x => by
  obtain ⟨p, x⟩ := seps_one.1 x
  obtain ⟨⟨⟨h1, h2, h3⟩, _⟩, x⟩ := sep_fact.1 x
  exact gr_shut h1 h2 h3 h x
theorem come_spec {n v p : Nat} {f : Nat → Cs} {bag : List (Nat × Mg)} (gb : Nat) (ps : Nat → Nat) (h : GInv n v p f bag) {t : Nat} {m : Mg} (hx : MsgI n v p f (t, m)) (hbag : bag.length ≤ 1000000) (a : Option Addr) (c : Nat) :
    Spec Try.prog 39 [.pointer (some ⟨gb, 0, none⟩), .agg (.int .i64 (t : Int) :: mgC m a c).toArray] [GroupX gb (lsF n ps f) bag a m.e.2.2.2]
    (fun r L => r = .bool true ∧ L = [GroupAt gb (lsF n ps (comeR p f bag t m).1) (comeR p f bag t m).2]) := by
  have hp := h.pn
  have h01 := h.n1
  have hpl := h.len
  unfold comeR
  rcases hx with ⟨h1, h2, h3, h4, h5, h6, j, h7, h8, h9⟩ | ⟨h1, h2, h3, h4, h5, h6⟩ | ⟨h1, h2, h3, b, h4, h5, h6, h7, h8⟩
  · simp only at h1 h2 h3 h4 h5 h6 h8 h9
    have hc := h.fl0 t h2
    have hlt := h.le t h2
    have hop : (f t).op = (f t).es.length := op_len (h.base t h2)
    obtain ⟨mk, mv, mf, mo, mc, mfl, md, me_⟩ := m
    simp only at h1 h4 h5 h6 h8 h9 ⊢
    subst h1 h4 h8
    have hel : me_.2.2.2.length ≤ 1000000000000 := h.ent _ (List.mem_of_getElem? h9)
    rw [if_pos rfl]
    by_cases hf : (((f t).op : Nat) : Int) + 1 < ((j + 1 : Nat) : Int)
    · rw [if_pos hf]
      exact come_far gb n v p t ps f bag h.n1 h.n7 h.pp h2 (h.ok h2) (h.nn t h2) (h.vw t h2) (h.me t h2) (h.vw 0 (by omega)) hbag (by omega) (by omega) mf mc mfl md (j + 1) me_ h3 (by omega) (by omega) a c
    · rw [if_neg hf]
      by_cases he : ((j + 1 : Nat) : Int) = (((f t).op : Nat) : Int) + 1
      · rw [if_pos he]
        have hj : j + 1 = (f t).op + 1 := by omega
        rw [hj, h.vw t h2]
        exact come_next gb n v p t ps f bag h.n1 h.n7 h.pp h2 (h.ok h2) (h.nn t h2) (h.vw t h2) (h.me t h2) (h.vw 0 (by omega)) hbag (by omega) (by omega) mf mc mfl md me_ h3 hel (by omega) a c
      · rw [if_neg he, h.vw t h2]
        exact come_old gb n v p t ps f bag h.n1 h.n7 h.pp h2 (h.ok h2) (h.nn t h2) (h.vw t h2) (h.me t h2) (h.vw 0 (by omega)) hbag (by omega) (by omega) mf mc mfl md (j + 1) me_ h3 (by omega) a c
  · simp only at h1 h2 h3 h4 h5 h6
    have hc := h.fl0 t h2
    have hlt := h.le t h2
    obtain ⟨mk, mv, mf, mo, mc, mfl, md, me_⟩ := m
    simp only at h1 h4 h5 h6 ⊢
    subst h1 h4
    rw [if_neg (by omega), if_pos rfl, h.vw t h2]
    exact come_heard gb n v p t ps f bag h.n1 h.n7 h.pp h2 (h.ok h2) (h.nn t h2) (h.vw t h2) (h.me t h2) (h.vw 0 (by omega)) hbag (by omega) (by omega) mf mo mc mfl md me_ h3 a c
  · simp only at h1 h2 h3 h4 h7 h8
    subst h2
    have hc := h.fl0 t hp
    have hlb := h.le b h5
    have hop : (f t).op = (f t).es.length := op_len (h.base t hp)
    obtain ⟨mk, mv, mf, mo, mc, mfl, md, me_⟩ := m
    simp only at h1 h3 h4 h7 h8 ⊢
    subst h1 h3 h4
    rw [if_neg (by omega), if_neg (by omega)]
    exact come_ok gb n v t t ps f bag h.n1 h.n7 h.pp hp (h.ok hp) (h.nn t hp) (h.vw t hp) (h.me t hp) (h.vw 0 (by omega)) hbag (by omega) (by omega) b mo mc mfl md me_ rfl h5 h6 (by omega) a c
/-- something happens -/
def doesR (n p : Nat) (f : Nat → Cs) (bag : List (Nat × Mg)) (what : Int) (N : Nat) : (Nat → Cs) × List (Nat × Mg) :=
  if what = 0 then propR n p f bag (enN N)
  else if what = 1 ∨ what = 2 ∨ what = 3 then
    match bag[N % bag.length]? with
    | none => (f, bag)
    | some (t, m) => if what = 3 then (f, bag.take (N % bag.length) ++ bag.drop (N % bag.length + 1)) else comeR p f (if what = 2 then bag else bag.take (N % bag.length) ++ bag.drop (N % bag.length + 1)) t m
  else if what = 4 then beatG n p f bag
  else (f, bag)
theorem does_inv {n v p : Nat} {f : Nat → Cs} {bag : List (Nat × Mg)} (h : GInv n v p f bag) (what : Int) (N : Nat) : GInv n v p (doesR n p f bag what N).1 (doesR n p f bag what N).2 ∧ Grow n p f (doesR n p f bag what N).1 := by
  have hrest : ∀ k, ∀ x ∈ bag.take k ++ bag.drop (k + 1), x ∈ bag := fun k x hx => by
    rcases List.mem_append.1 hx with hx | hx
    · exact List.mem_of_mem_take hx
    · exact List.mem_of_mem_drop hx
  unfold doesR
  split
  · exact prop_inv h (by simp [enN])
  · split
    · split
      · exact ⟨h, Grow.refl _ _ _⟩
      · rename_i t m hm
        have hmem := List.mem_of_getElem? hm
        split
        · exact ⟨h.less (hrest _), Grow.refl _ _ _⟩
        · split
          · exact come_inv h (h.msg _ hmem)
          · exact come_inv (h.less (hrest _)) (h.msg _ hmem)
    · split
      · exact beat_inv h
      · exact ⟨h, Grow.refl _ _ _⟩
theorem comeR_len (p : Nat) (f : Nat → Cs) (bag : List (Nat × Mg)) (t : Nat) (m : Mg) : (comeR p f bag t m).2.length ≤ bag.length + 1 := by
  unfold comeR
  repeat' split
  all_goals simp
theorem doesR_len (n p : Nat) (f : Nat → Cs) (bag : List (Nat × Mg)) (what : Int) (N : Nat) (h1 : 1 ≤ n) : (doesR n p f bag what N).2.length ≤ bag.length + n := by
  have hr : ∀ k, (bag.take k ++ bag.drop (k + 1)).length ≤ bag.length := fun k => by simp; omega
  unfold doesR
  split
  · unfold propR
    split
    · have := toAll_len n p ⟨4, (f p).view, 0, ((f p).op + 1 : Nat), (goesR (addE (f p) (enN N))).commit, (goesR (addE (f p) (enN N))).floor, 0, enN N⟩
      rw [List.length_append]; omega
    · simp
  · split
    · split
      · simp
      · split
        · have := hr (N % bag.length); simp only; omega
        · rename_i t m _ _
          split
          · have := comeR_len p f bag t m; omega
          · have := comeR_len p f (bag.take (N % bag.length) ++ bag.drop (N % bag.length + 1)) t m
            have := hr (N % bag.length)
            omega
    · split
      · unfold beatG
        have := toAll_len n p ⟨6, (f p).view, 0, (f p).op, (goesR (beatR (f p) ((f p).commit / 8 * 8))).commit, (goesR (beatR (f p) ((f p).commit / 8 * 8))).floor, 0, e0⟩
        rw [List.length_append]; omega
      · simp
end SL
