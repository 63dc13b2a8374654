/-
  A table of requests, in plain terms and in memory.
-/
import Derived.Test.YtmnolaklpihmnaaOn5
import Derived.Test.YtmnolaklpihmnaaSo1
set_option linter.unusedVariables false
set_option linter.unusedSimpArgs false
set_option maxRecDepth 10000
namespace SL
open Go Go.Proofs Go.RowKit

/-- a client's last request, and its answer -/
abbrev OV := Nat × List UInt8
/-- clients, rising -/
abbrev OT := List (Int × OV)
def olk (q : Int) : OT → Option OV
  | [] => none
  | p :: T => if p.1 = q then some p.2 else olk q T
def oins (q : Int) (v : OV) : OT → OT
  | [] => [(q, v)]
  | p :: T => if p.1 < q then p :: oins q v T else if p.1 = q then (q, v) :: T else (q, v) :: p :: T
theorem olk_ins (q x : Int) (v : OV) : ∀ T : OT, olk x (oins q v T) = if q = x then some v else olk x T
  | [] => by simp [oins, olk]
  | p :: T => by
    simp only [oins]
    split
    · rename_i h
      simp only [olk, olk_ins q x v T]
      by_cases e : p.1 = x
      · rw [if_pos e, if_pos e, if_neg (by omega)]
      · rw [if_neg e, if_neg e]
    · split
      · rename_i h1 h2
        by_cases e : q = x
        · simp [olk, e]
        · simp only [olk, if_neg e]
          rw [if_neg (by omega)]
      · by_cases e : q = x
        · simp [olk, e]
        · simp only [olk, if_neg e]
theorem olk_none {q : Int} : ∀ {T : OT}, olk q T = none ↔ q ∉ T.map (·.1)
  | [] => by simp [olk]
  | p :: T => by
    simp only [olk, List.map_cons, List.mem_cons, not_or]
    split
    · rename_i h; simp [h]
    · rename_i h
      rw [olk_none]
      exact ⟨fun x => ⟨fun e => h e.symm, x⟩, fun x => x.2⟩
theorem olk_some_mem {q : Int} {v : OV} : ∀ {T : OT}, olk q T = some v → (q, v) ∈ T
  | [], h => by simp [olk] at h
  | p :: T, h => by
    simp only [olk] at h
    split at h
    · rename_i e
      simp at h
      rw [← e, ← h]
      exact List.mem_cons_self ..
    · exact List.mem_cons_of_mem _ (olk_some_mem h)
theorem mem_oins {q : Int} {v : OV} {x : Int × OV} : ∀ {T : OT}, x ∈ oins q v T → x = (q, v) ∨ x ∈ T
  | [], h => by simp [oins] at h; exact .inl h
  | p :: T, h => by
    simp only [oins] at h
    split at h
    · rcases List.mem_cons.1 h with h | h
      · exact .inr (by rw [h]; exact List.mem_cons_self ..)
      · rcases mem_oins h with h | h
        · exact .inl h
        · exact .inr (List.mem_cons_of_mem _ h)
    · split at h
      · rcases List.mem_cons.1 h with h | h
        · exact .inl h
        · exact .inr (List.mem_cons_of_mem _ h)
      · rcases List.mem_cons.1 h with h | h
        · exact .inl h
        · exact .inr h
theorem oins_keys {q x : Int} {v : OV} {T : OT} : x ∈ (oins q v T).map (·.1) ↔ x = q ∨ x ∈ T.map (·.1) := by
  have h1 := @olk_none x (oins q v T)
  have h2 := @olk_none x T
  rw [olk_ins] at h1
  by_cases e : q = x
  · rw [if_pos e] at h1
    simp only [reduceCtorEq, false_iff, Decidable.not_not] at h1
    exact ⟨fun _ => .inl e.symm, fun _ => h1⟩
  · rw [if_neg e] at h1
    have h3 : x ∉ (oins q v T).map (·.1) ↔ x ∉ T.map (·.1) := by rw [← h1, ← h2]
    constructor
    · intro h
      exact .inr (Decidable.byContradiction fun c => h3.2 c h)
    · rintro (h | h)
      · exact absurd h.symm e
      · exact Decidable.byContradiction fun c => h3.1 c h
def ORise (T : OT) : Prop := (T.map (·.1)).Pairwise (· < ·)
theorem ORise.ins {q : Int} {v : OV} : ∀ {T : OT}, ORise T → ORise (oins q v T)
  | [], h => by simp [oins, ORise]
  | p :: T, h => by
    have h' : (∀ x ∈ T.map (·.1), p.1 < x) ∧ ORise T := by simpa only [ORise, List.map_cons, List.pairwise_cons] using h
    simp only [oins]
    split
    · rename_i hlt
      show ((p :: oins q v T).map (·.1)).Pairwise _
      rw [List.map_cons, List.pairwise_cons]
      refine ⟨fun x hx => ?_, h'.2.ins⟩
      rcases oins_keys.1 hx with rfl | hx
      · exact hlt
      · exact h'.1 x hx
    · split
      · rename_i h1 h2
        show (((q, v) :: T).map (·.1)).Pairwise _
        rw [List.map_cons, List.pairwise_cons]
        exact ⟨fun x hx => by have := h'.1 x hx; simp only; omega, h'.2⟩
      · rename_i h1 h2
        show (((q, v) :: p :: T).map (·.1)).Pairwise _
        rw [List.map_cons, List.pairwise_cons]
        refine ⟨fun x hx => ?_, h⟩
        simp only [List.map_cons, List.mem_cons] at hx
        rcases hx with rfl | hx
        · simp only; omega
        · have := h'.1 x hx; simp only; omega
theorem oins_len {q : Int} {v : OV} : ∀ {T : OT}, ORise T → (oins q v T).length = if (olk q T).isSome then T.length else T.length + 1
  | [], h => by simp [oins, olk]
  | p :: T, h => by
    have h' : (∀ x ∈ T.map (·.1), p.1 < x) ∧ ORise T := by simpa only [ORise, List.map_cons, List.pairwise_cons] using h
    by_cases hlt : p.1 < q
    · have e1 : oins q v (p :: T) = p :: oins q v T := by simp only [oins]; rw [if_pos hlt]
      have e2 : olk q (p :: T) = olk q T := by simp only [olk]; rw [if_neg (by omega)]
      rw [e1, e2, List.length_cons, oins_len h'.2]
      split <;> simp
    · by_cases h2 : p.1 = q
      · have e1 : oins q v (p :: T) = (q, v) :: T := by simp only [oins]; rw [if_neg hlt, if_pos h2]
        have e2 : olk q (p :: T) = some p.2 := by simp only [olk]; rw [if_pos h2]
        rw [e1, e2]
        simp
      · have e1 : oins q v (p :: T) = (q, v) :: p :: T := by simp only [oins]; rw [if_neg hlt, if_neg h2]
        have e2 : olk q (p :: T) = none := olk_none.2 fun c => by
          simp only [List.map_cons, List.mem_cons] at c
          rcases c with c | c
          · exact h2 c.symm
          · have := h'.1 q c; omega
        rw [e1, e2]
        simp
structure TOk (T : OT) : Prop where
  rise : ORise T
  len : T.length ≤ 16
  all : ∀ p ∈ T, 0 ≤ p.1 ∧ p.1 ≤ 4294967295 ∧ p.2.1 < 18446744073709551616 ∧ p.2.2.length ≤ 1048576
theorem TOk.nil : TOk [] := ⟨by simp [ORise], by simp, by simp⟩
theorem TOk.ins {T : OT} (h : TOk T) {q : Int} {v : OV} (hq : 0 ≤ q ∧ q ≤ 4294967295) (hv : v.1 < 18446744073709551616 ∧ v.2.length ≤ 1048576) (hl : (olk q T).isSome = true ∨ T.length < 16) : TOk (oins q v T) := by
  refine ⟨h.rise.ins, ?_, fun p hp => ?_⟩
  · rw [oins_len h.rise]
    have := h.len
    split
    · exact this
    · rcases hl with hl | hl
      · contradiction
      · omega
  · rcases mem_oins hp with rfl | hp
    · exact ⟨hq.1, hq.2, hv.1, hv.2⟩
    · exact h.all p hp
theorem TOk.lk {T : OT} (h : TOk T) {q : Int} {v : OV} (e : olk q T = some v) : v.1 < 18446744073709551616 ∧ v.2.length ≤ 1048576 := by
  have := h.all _ (olk_some_mem e)
  exact ⟨this.2.2.1, this.2.2.2⟩
theorem strict_nodup {xs : List Int} (h : xs.Pairwise (· < ·)) : xs.Nodup := h.imp fun h => by omega
/-- what stands at a key in the map -/
def VO (v : OV) (a : Option Addr) (c : Nat) : Value := .agg [.int .u64 (v.1 : Int), .slice a v.2.length c].toArray
structure Tv (g : Hp) (l : List (Int × Value)) (T : OT) : Prop where
  keys : ∀ q, q ∈ l.map (·.1) ↔ q ∈ T.map (·.1)
  val : ∀ q v, olk q T = some v → ∃ a c, get q l = some (VO v a c) ∧ RdG g a (v.2.map byteV) ∧ v.2.length ≤ c
theorem get_none_iff {q : Int} : ∀ {l : List (Int × Value)}, get q l = none ↔ q ∉ l.map (·.1)
  | [] => by simp [get]
  | p :: l => by
    simp only [get, List.map_cons, List.mem_cons, not_or]
    split
    · rename_i h; simp [h]
    · rename_i h
      rw [get_none_iff]
      exact ⟨fun x => ⟨fun e => h e.symm, x⟩, fun x => x.2⟩
theorem Tv.none {g : Hp} {l : List (Int × Value)} {T : OT} (h : Tv g l T) {q : Int} (e : olk q T = none) : get q l = none := by
  rw [get_none_iff, h.keys]
  exact olk_none.1 e
theorem Tv.nil (g : Hp) : Tv g [] [] := ⟨by simp, by simp [olk]⟩
theorem Tv.le {g g' : Hp} {l : List (Int × Value)} {T : OT} (h : Tv g l T) (hg : HLe g g') : Tv g' l T :=
  ⟨h.keys, fun q v e => by obtain ⟨a, c, h1, h2, h3⟩ := h.val q v e; exact ⟨a, c, h1, h2.le hg, h3⟩⟩
theorem get_upd (q x : Int) (v : Value) : ∀ l : List (Int × Value), get x (upd q v l) = if q = x then some v else get x l
  | [] => by simp [upd, get]
  | p :: l => by
    simp only [upd]
    split
    · rename_i h
      by_cases e : q = x
      · simp [get, e]
      · simp only [get, if_neg e]
        rw [if_neg (by omega)]
    · rename_i h
      simp only [get, get_upd q x v l]
      by_cases e : p.1 = x
      · rw [if_pos e, if_pos e, if_neg (by omega)]
      · rw [if_neg e, if_neg e]
theorem upd_keys {q x : Int} {v : Value} {l : List (Int × Value)} : x ∈ (upd q v l).map (·.1) ↔ x = q ∨ x ∈ l.map (·.1) := by
  have h1 := @get_none_iff x (upd q v l)
  have h2 := @get_none_iff x l
  rw [get_upd] at h1
  by_cases e : q = x
  · rw [if_pos e] at h1
    simp only [reduceCtorEq, false_iff, Decidable.not_not] at h1
    exact ⟨fun _ => .inl e.symm, fun _ => h1⟩
  · rw [if_neg e] at h1
    have h3 : x ∉ (upd q v l).map (·.1) ↔ x ∉ l.map (·.1) := by rw [← h1, ← h2]
    constructor
    · intro h
      exact .inr (Decidable.byContradiction fun c => h3.2 c h)
    · rintro (h | h)
      · exact absurd h.symm e
      · exact Decidable.byContradiction fun c => h3.1 c h
theorem Tv.ins {g : Hp} {l : List (Int × Value)} {T : OT} (h : Tv g l T) {q : Int} {v : OV} {a : Option Addr} {c : Nat} (hr : RdG g a (v.2.map byteV)) (hc : v.2.length ≤ c) : Tv g (upd q (VO v a c) l) (oins q v T) := by
  refine ⟨fun x => by rw [upd_keys, oins_keys, h.keys], fun x w e => ?_⟩
  rw [olk_ins] at e
  rw [get_upd]
  split at e
  · rename_i hq
    simp at e
    subst e
    exact ⟨a, c, by rw [if_pos hq], hr, hc⟩
  · rename_i hq
    rw [if_neg hq]
    exact h.val x w e
/-- a map's length -/
theorem Tv.len {g : Hp} {l : List (Int × Value)} {T : OT} (h : Tv g l T) (hn : (l.map (·.1)).Nodup) (hT : ORise T) : l.length = T.length := by
  have := (perm_nodup hn (strict_nodup hT) h.keys).length_eq
  simpa using this
theorem Tv.srt {g : Hp} {l : List (Int × Value)} {T : OT} (h : Tv g l T) {ks : List Int} (hn : ks.Nodup) (hm : ∀ q, q ∈ ks ↔ q ∈ l.map (·.1)) (hT : ORise T) : SL.srt ks = T.map (·.1) := by
  refine sorted_unique (srt_sorted ks) (hT.imp fun h => by omega) ?_
  exact (srt_perm ks).trans (perm_nodup hn (strict_nodup hT) fun q => by rw [hm, h.keys])
/-- a table at block tb -/
def TbAt (tb : Nat) (T : OT) : HProp := SL.ex fun p : Nat × List (Int × Value) × Hp => seps [SL.fact (Tv p.2.2 p.2.1 T), SL.blk tb 56 [.map (some p.1)], mp (Value.int .u32) p.1 p.2.1, RO p.2.2]
theorem tb_shut {tb mb : Nat} {l : List (Int × Value)} {g : Hp} {T : OT} (hv : Tv g l T) : ∀ h, seps [SL.blk tb 56 [.map (some mb)], mp (Value.int .u32) mb l, RO g] h → TbAt tb T h := fun h x => ⟨(mb, l, g), sep_fact.2 ⟨hv, x⟩⟩
section
variable {P : Program} {fid : Fm} {n : Nat} {post : Post} {k : List Item} {ρ : Env} {L r : List HProp}
theorem TK.openTb {tb : Nat} {T : OT} (hp : Pick L (TbAt tb T) r) (h : ∀ mb l g, Tv g l T → (l.map (·.1)).Nodup → TK P fid n post k ρ (SL.blk tb 56 [.map (some mb)] :: mp (Value.int .u32) mb l :: RO g :: r)) : TK P fid n post k ρ L :=
  TK.exC hp fun p => TK.sepsC Pick.head (TK.fact Pick.head fun hv => TK.mpNodup (Pick.tail Pick.head) fun hn => h p.1 p.2.1 p.2.2 hv hn)
end
/-- a table's bytes -/
def tbs (T : OT) : List UInt8 := putN T.length ++ T.flatMap fun p => putN p.1.toNat ++ putN p.2.1 ++ putN p.2.2.length ++ p.2.2
end SL
