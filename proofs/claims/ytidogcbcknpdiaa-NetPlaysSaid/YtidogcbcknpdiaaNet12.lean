/-
  Chapter 29: NetKeeps: calls that came in; what is counted.
-/
import Derived.Test.YtidogcbcknpdiaaNet9
set_option linter.unusedVariables false
set_option linter.unusedSimpArgs false
set_option maxRecDepth 10000
namespace SL
open Go Go.Proofs Go.RowKit

structure Act where
  what : Int
  k : Int
  bit : Int
  f : Fr
  s : Option Addr × Nat
def actV (A : Act) : List Value := [.int .i64 A.what, .int .i64 A.k, .int .i64 A.bit] ++ frV A.f A.s
def I64 (i : Int) : Prop := -9223372036854775808 ≤ i ∧ i ≤ 9223372036854775807
structure ActOk (W : World) (A : Act) : Prop where
  what : I64 A.what
  k : I64 A.k
  bit : I64 A.bit
  n1 : 0 ≤ A.f.n1 ∧ A.f.n1 ≤ 4294967295
  n2 : 0 ≤ A.f.n2 ∧ A.f.n2 ≤ 4294967295
  cap : A.f.bs.length ≤ A.s.2
  nil : A.s.1 = none → A.f.bs = []
  cells : ∀ q, A.s.1 = some q → ∀ j x, A.f.bs[j]? = some x → W.cell? (q.add j) = some (byteV x)

theorem i64_of {n : Int} (h : (Lit.int .i64 n).wf = true) : I64 n := by
  simpa [Lit.wf, IntKind.min, IntKind.max, IntKind.signed, IntKind.bits, I64] using h
theorem u32_of {n : Int} (h : (Lit.int .u32 n).wf = true) : 0 ≤ n ∧ n ≤ 4294967295 := by
  simpa [Lit.wf, IntKind.min, IntKind.max, IntKind.signed, IntKind.bits] using h

theorem addr_of {W : World} {cs : List Value} (h : Rdb Try.prog W 28 cs) : ∃ c n, cs = [.bool c, .int .u32 n] ∧ 0 ≤ n ∧ n ≤ 4294967295 := by
  obtain ⟨hl, hf⟩ := h.struct Try.underlying28
  simp only [List.mem_cons, List.not_mem_nil, or_false, forall_eq_or_imp, forall_eq] at hf
  obtain ⟨h0, h1⟩ := hf
  have l28 : Try.prog.cellsOf 28 = 2 := by kernel_rfl
  have l4 : Try.prog.cellsOf 4 = 1 := by kernel_rfl
  have l26 : Try.prog.cellsOf 26 = 1 := by kernel_rfl
  rw [l28] at hl
  match cs, hl with
  | [x, y], _ =>
    obtain ⟨b, hb⟩ := h0.bool Try.underlying4
    obtain ⟨n, hn, hw⟩ := h1.int Try.underlying26
    simp [l4] at hb
    simp [l26] at hn
    subst hb hn
    exact ⟨b, n, rfl, u32_of hw⟩
theorem frame_of {W : World} {cs : List Value} (h : Rdb Try.prog W 31 cs) : ∃ (f : Fr) (s : Option Addr × Nat), cs = frV f s ∧ (0 ≤ f.n1 ∧ f.n1 ≤ 4294967295) ∧ (0 ≤ f.n2 ∧ f.n2 ≤ 4294967295) ∧ f.bs.length ≤ s.2 ∧ (s.1 = none → f.bs = []) ∧
    (∀ q, s.1 = some q → ∀ j x, f.bs[j]? = some x → W.cell? (q.add j) = some (byteV x)) := by
  obtain ⟨hl, hf⟩ := h.struct Try.underlying31
  simp only [List.mem_cons, List.not_mem_nil, or_false, forall_eq_or_imp, forall_eq] at hf
  obtain ⟨h0, h1, h2⟩ := hf
  have l31 : Try.prog.cellsOf 31 = 5 := by kernel_rfl
  have l28 : Try.prog.cellsOf 28 = 2 := by kernel_rfl
  have l29 : Try.prog.cellsOf 29 = 1 := by kernel_rfl
  rw [l31] at hl
  match cs, hl with
  | [x, y, z, u, v], _ =>
    simp only [l28, l29] at h0 h1 h2
    obtain ⟨c1, n1, e1, b1⟩ := addr_of h0
    obtain ⟨c2, n2, e2, b2⟩ := addr_of h1
    obtain ⟨a, cap, bs, e3, hc, _, hn, hcell⟩ := h2.bytes Try.underlying29 Try.underlying5 (by kernel_rfl)
    simp at e1 e2 e3
    obtain ⟨rfl, rfl⟩ := e1
    obtain ⟨rfl, rfl⟩ := e2
    subst e3
    exact ⟨⟨c1, n1, c2, n2, bs⟩, (a, cap), rfl, b1, b2, hc, hn, hcell⟩
theorem act_of {W : World} {cs : List Value} (h : Rdb Try.prog W 33 cs) : ∃ A, cs = actV A ∧ ActOk W A := by
  obtain ⟨hl, hf⟩ := h.struct Try.underlying33
  simp only [List.mem_cons, List.not_mem_nil, or_false, forall_eq_or_imp, forall_eq] at hf
  obtain ⟨h0, h1, h2, h3⟩ := hf
  have l33 : Try.prog.cellsOf 33 = 8 := by kernel_rfl
  have l3 : Try.prog.cellsOf 3 = 1 := by kernel_rfl
  have l31 : Try.prog.cellsOf 31 = 5 := by kernel_rfl
  rw [l33] at hl
  match cs, hl with
  | [x, y, z, u1, u2, u3, u4, u5], _ =>
    simp only [l3, l31] at h0 h1 h2 h3
    obtain ⟨n0, e0, w0⟩ := h0.int Try.underlying3
    obtain ⟨n1, e1, w1⟩ := h1.int Try.underlying3
    obtain ⟨n2, e2, w2⟩ := h2.int Try.underlying3
    obtain ⟨f, s, e3, b1, b2, hc, hn, hcell⟩ := frame_of h3
    simp at e0 e1 e2
    subst e0 e1 e2
    have e3' : [u1, u2, u3, u4, u5] = frV f s := by simpa using e3
    exact ⟨⟨n0, n1, n2, f, s⟩, by simp [actV, ← e3'], ⟨i64_of w0, i64_of w1, i64_of w2, b1, b2, hc, hn, hcell⟩⟩
/-- calls that came in -/
theorem acts_in {W : World} {base : Nat} {H : Type} {enc : TypeId × Value → H} {v : Value} {d : DataW H} {ps : List MemPlace}
    (hval : Value.okWide Try.prog W .any base 22 v) (h : DataW.Trod enc Try.prog W 0 (fun _ => true) true 22 v d ps) :
    ∃ (a : Option Addr) (cap : Nat) (As : List Act), v = .slice a As.length cap ∧ As.length ≤ cap ∧ cap ≤ maxLen ∧ (a = none → As = []) ∧
      ∀ q, a = some q → ∀ i A, As[i]? = some A → ActOk W A ∧ ∀ j x, (actV A)[j]? = some x → W.cell? ((q.add (i * 8)).add j) = some x := by
  obtain ⟨a1, len1, cap1, rfl⟩ := Go.WideShapes.okWide_slice Try.underlying22 hval
  have l33 : Try.prog.cellsOf 33 = 8 := by kernel_rfl
  rcases (Rdb.of h).slice Try.underlying22 with h1 | ⟨a, len, cap, h1, h2, h3, h4⟩
  · simp [Value.cells] at h1
    obtain ⟨rfl, rfl, rfl⟩ := h1
    exact ⟨none, 0, [], rfl, Nat.le_refl _, Nat.zero_le _, fun _ => rfl, fun q hq => by cases hq⟩
  · simp [Value.cells] at h1
    obtain ⟨rfl, rfl, rfl⟩ := h1
    have hb : ∀ i, i < len1 → ∃ A : Act, ActOk W A ∧ ∀ j x, (actV A)[j]? = some x → W.cell? ((a.add (i * 8)).add j) = some x := by
      intro i hi
      obtain ⟨es, hl, hcell, hr⟩ := h4 i (by omega)
      obtain ⟨A, rfl, hA⟩ := act_of hr
      refine ⟨A, hA, fun j x hj => ?_⟩
      rw [add_add, ← l33]
      exact hcell j x hj
    have hf : ∃ f : Nat → Act, ∀ i, i < len1 → ActOk W (f i) ∧ ∀ j x, (actV (f i))[j]? = some x → W.cell? ((a.add (i * 8)).add j) = some x :=
      ⟨fun i => if h : i < len1 then (hb i h).choose else ⟨0, 0, 0, ⟨false, 0, false, 0, []⟩, (none, 0)⟩, fun i hi => by simp only [dif_pos hi]; exact (hb i hi).choose_spec⟩
    obtain ⟨f, hf⟩ := hf
    refine ⟨some a, cap1, (List.range len1).map f, by simp, by simpa using h2, h3, fun hq => (by cases hq), ?_⟩
    rintro q hq i A hi
    cases hq
    rw [List.getElem?_map, Option.map_eq_some_iff] at hi
    obtain ⟨i', hi', rfl⟩ := hi
    have hlt : i < len1 := by
      have := (List.getElem?_eq_some_iff.1 hi').1
      simpa using this
    rw [List.getElem?_range hlt] at hi'
    simp at hi'
    subst hi'
    exact hf i hlt

/-! counting -/
def cntI (cs : List UInt8) (x : Int) : Nat := cs.countP fun c => decide ((c.toNat : Int) = x)
def CntOk (S : List (Int × Value)) (cs : List UInt8) : Prop := ∀ x, (get x S).getD (.int .i64 0) = .int .i64 (cntI cs x)
theorem get_upd {κ : Type} [DecidableEq κ] (q x : κ) (v : Value) (l : List (κ × Value)) : get x (upd q v l) = if q = x then some v else get x l := by
  induction l with
  | nil => simp only [upd, get]
  | cons p l ih =>
    simp only [upd]
    by_cases h : p.1 = q
    · subst h
      by_cases e : p.1 = x
      · simp [get, e]
      · simp [get, e]
    · rw [if_neg h]
      simp only [get, ih]
      by_cases e : p.1 = x
      · have : ¬ q = x := fun c => h (e.trans c.symm)
        simp [e, this]
      · simp [e]
theorem get_nodup {κ : Type} [DecidableEq κ] {q : κ} {v : Value} : ∀ {l : List (κ × Value)}, (l.map (·.1)).Nodup → (q, v) ∈ l → get q l = some v
  | [], _, h => by simp at h
  | p :: l, hn, h => by
    have hn' := List.nodup_cons.1 (by simpa using hn : (p.1 :: l.map (·.1)).Nodup)
    simp only [get]
    rcases List.mem_cons.1 h with h | h
    · subst h; simp
    · have : ¬ p.1 = q := fun e => hn'.1 (by rw [e]; exact List.mem_map.2 ⟨_, h, rfl⟩)
      rw [if_neg this, get_nodup hn'.2 h]
theorem CntOk.nil : CntOk [] [] := fun x => rfl
theorem CntOk.add {S : List (Int × Value)} {cs : List UInt8} (h : CntOk S cs) (c : UInt8) : CntOk (upd (c.toNat : Int) (.int .i64 ((cntI cs c.toNat : Int) + 1)) S) (cs ++ [c]) := by
  intro x
  rw [get_upd]
  unfold cntI
  rw [List.countP_append]
  by_cases e : (c.toNat : Int) = x
  · simp [e]
  · simp only [if_neg e, List.countP_cons, e, decide_false, List.countP_nil]
    simpa [cntI] using h x
theorem CntOk.sub {S : List (Int × Value)} {cs : List UInt8} (h : CntOk S cs) {k : Nat} {c : UInt8} (hk : cs[k]? = some c) : CntOk (upd (c.toNat : Int) (.int .i64 ((cntI cs c.toNat : Int) - 1)) S) (cs.eraseIdx k) := by
  intro x
  have hlt : k < cs.length := (List.getElem?_eq_some_iff.1 hk).1
  have hsplit : cs = cs.take k ++ c :: cs.drop (k + 1) := by
    have := List.take_append_drop k cs
    rw [List.drop_eq_getElem_cons hlt] at this
    rw [← (List.getElem?_eq_some_iff.1 hk).2]
    exact this.symm
  have hcount : ∀ y, cntI cs y = cntI (cs.eraseIdx k) y + (if (c.toNat : Int) = y then 1 else 0) := by
    intro y
    unfold cntI
    rw [List.eraseIdx_eq_take_drop_succ]
    conv => lhs; rw [hsplit]
    rw [List.countP_append, List.countP_cons, List.countP_append]
    by_cases e : (c.toNat : Int) = y <;> simp [e] <;> omega
  rw [get_upd]
  by_cases e : (c.toNat : Int) = x
  · subst e
    have := hcount (c.toNat : Int)
    simp only [if_true] at this
    simp
    omega
  · rw [if_neg e, h x, hcount x, if_neg e]
    simp

section
variable {P : Program} {fid n : Nat} {post : Post} {k : List Item} {ρ : Env} {L r : List HProp} {κ : Type} {kv : κ → Value} {m : Nat} {l : List (κ × Value)}
theorem TK.mpNodup (hp : Pick L (mpI kv m l none) r) (h : (l.map (·.1)).Nodup → TK P fid n post k ρ L) : TK P fid n post k ρ L := by
  intro w0 F a w b cs g st hb hk
  obtain ⟨bs, c, gd, _⟩ := st.openMp hp
  exact h gd.keys w0 F a w b cs g st hb hk
end
end SL
