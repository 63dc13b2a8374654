/-
  What came in: cells that read as data of a type, opened type by type.
-/
import Derived.Test.YtpnlenpglmffdaaSl12
set_option linter.unusedVariables false
set_option linter.unusedSimpArgs false
namespace SL
open Go Go.ChangeShapes Go.WideShapes Go.ChangeAt Go.WideElems Go.RowKit

/-- the cells read as data of the type -/
def Rdb (P : Program) (W : World) (t : Nat) (cs : List Value) : Prop := ∃ (H : Type) (enc : TypeId × Value → H) (n : Nat) (x : DataW H × List MemPlace), DataW.trod enc P W 0 (fun _ => true) true n t cs = some x

theorem add_add (q : Addr) (i j : Nat) : (q.add i).add j = q.add (i + j) := by
  obtain ⟨b, o, s⟩ := q
  by_cases hi : i = 0
  · subst hi; simp [Addr.add]
  · by_cases hj : j = 0
    · subst hj; simp [Addr.add, hi]
    · simp [Addr.add, hi, hj, Nat.add_assoc]

section
variable {P : Program} {W : World} {t : Nat} {cs : List Value}
theorem Rdb.of {H : Type} {enc : TypeId × Value → H} {v : Value} {d : DataW H} {ps : List MemPlace} (h : DataW.Trod enc P W 0 (fun _ => true) true t v d ps) : Rdb P W t v.cells.toList := by
  obtain ⟨n, hn⟩ := h
  exact ⟨H, enc, n, _, hn⟩
theorem Rdb.int {k : IntKind} (ht : P.underlying t = some (.int k)) (h : Rdb P W t cs) : ∃ n, cs = [.int k n] ∧ (Lit.int k n).wf = true := by
  obtain ⟨H, enc, m, x, hx⟩ := h
  obtain ⟨n, h1, _, h2⟩ := DataW.trod_int ht hx
  exact ⟨n, h1, h2⟩
theorem Rdb.bool (ht : P.underlying t = some .bool) (h : Rdb P W t cs) : ∃ b, cs = [.bool b] := by
  obtain ⟨H, enc, m, x, hx⟩ := h
  obtain ⟨b, h1, _⟩ := DataW.trod_bool ht hx
  exact ⟨b, h1⟩
theorem Rdb.struct {fs : Array Field} (ht : P.underlying t = some (.struct fs)) (h : Rdb P W t cs) :
    cs.length = P.cellsOf t ∧ ∀ f ∈ fs.toList, Rdb P W f.type ((cs.drop f.offset).take (P.cellsOf f.type)) := by
  obtain ⟨H, enc, m, x, hx⟩ := h
  obtain ⟨xs, n, _, _, h1, h2, h3⟩ := DataW.trod_struct ht hx
  refine ⟨h1, fun f hf => ?_⟩
  obtain ⟨i, hi⟩ := List.getElem?_of_mem hf
  have hi' : fs[i]? = some f := by simpa using hi
  have hlt : i < xs.length := by rw [h2]; exact (Array.getElem?_eq_some_iff.1 hi').1
  have := h3 i f hi'
  rw [List.getElem?_eq_getElem hlt] at this
  exact ⟨H, enc, n, _, this⟩
theorem Rdb.slice {e : Nat} (ht : P.underlying t = some (.slice e)) (h : Rdb P W t cs) :
    (cs = [.slice none 0 0]) ∨ ∃ (a : Addr) (len cap : Nat), cs = [.slice (some a) len cap] ∧ len ≤ cap ∧ cap ≤ maxLen ∧
      ∀ i, i < cap → ∃ es : List Value, es.length = P.cellsOf e ∧ (∀ j v, es[j]? = some v → W.cell? (a.add (i * P.cellsOf e + j)) = some v) ∧ Rdb P W e es := by
  obtain ⟨H, enc, m, x, hx⟩ := h
  rcases DataW.trod_slice ht hx with ⟨h1, _⟩ | ⟨a, len, cap, elems, rest, n, _, h1, _, _, h3, h4, h5, h6, h7, _⟩
  · exact .inl h1
  · refine .inr ⟨a, len, cap, h1, h3, h4, fun i hi => ?_⟩
    have key : ∃ y, (W.cells? 0 (a.add (i * P.cellsOf e)) (P.cellsOf e)).bind (DataW.trod enc P W 0 (fun _ => true) true n e) = some y := by
      by_cases hl : i < len
      · refine ⟨elems[i]'(by omega), ?_⟩
        rw [h6 i hl, List.getElem?_eq_getElem]
      · obtain ⟨h8, h9⟩ := h7 rfl
        refine ⟨rest[i - len]'(by omega), ?_⟩
        have := h9 (i - len) (by omega)
        rw [show len + (i - len) = i from by omega] at this
        rw [this, List.getElem?_eq_getElem]
    obtain ⟨y, hy⟩ := key
    obtain ⟨es, he, hy'⟩ := Option.bind_eq_some_iff.1 hy
    obtain ⟨_, hl, hc⟩ := World.cells?_some he
    refine ⟨es, hl, fun j v hj => ?_, H, enc, n, y, hy'⟩
    have hjl : j < es.length := (List.getElem?_eq_some_iff.1 hj).1
    have := hc j (by omega)
    rw [add_add] at this
    rw [this, hj]
theorem Rdb.array {m e : Nat} (ht : P.underlying t = some (.array m e)) (h : Rdb P W t cs) :
    cs.length = P.cellsOf t ∧ ∀ i, i < m → Rdb P W e ((cs.drop (i * P.cellsOf e)).take (P.cellsOf e)) := by
  obtain ⟨H, enc, n, x, hx⟩ := h
  cases n with
  | zero => simp [DataW.trod] at hx
  | succ n =>
    unfold DataW.trod at hx
    rw [ht] at hx
    simp only at hx
    split at hx
    · rename_i hl
      rw [Option.map_eq_some_iff] at hx
      obtain ⟨xs, hp, _⟩ := hx
      refine ⟨hl, fun i hi => ?_⟩
      have h1 := mapM_some_get hp i i (by simp [hi])
      have hxl : xs.length = m := by simpa using mapM_some_length hp
      rw [List.getElem?_eq_getElem (by omega)] at h1
      exact ⟨H, enc, n, _, h1⟩
    · cases hx
theorem Rdb.bytes {e : Nat} (ht : P.underlying t = some (.slice e)) (he : P.underlying e = some (.int .u8)) (hc : P.cellsOf e = 1) (h : Rdb P W t cs) :
    ∃ (a : Option Addr) (cap : Nat) (bs : List UInt8), cs = [.slice a bs.length cap] ∧ bs.length ≤ cap ∧ cap ≤ maxLen ∧ (a = none → bs = []) ∧
      (∀ q, a = some q → ∀ j x, bs[j]? = some x → W.cell? (q.add j) = some (byteV x)) := by
  rcases h.slice ht with rfl | ⟨a, len, cap, rfl, h1, h2, h3⟩
  · exact ⟨none, 0, [], rfl, Nat.le_refl _, Nat.zero_le _, fun _ => rfl, fun q hq => by cases hq⟩
  · have hb : ∀ i, i < len → ∃ x : UInt8, W.cell? (a.add i) = some (byteV x) := by
      intro i hi
      obtain ⟨es, hl, hcell, hr⟩ := h3 i (by omega)
      obtain ⟨z, rfl, hw⟩ := hr.int he
      have := hcell 0 _ rfl
      rw [hc, Nat.mul_one, Nat.add_zero] at this
      refine ⟨UInt8.ofNat z.toNat, ?_⟩
      rw [this, byteV]
      simp only [Lit.wf, IntKind.min, IntKind.max, IntKind.signed, IntKind.bits, Bool.and_eq_true, decide_eq_true_eq] at hw
      congr 2
      simp only [UInt8.toNat_ofNat']
      simp at hw
      omega
    have hf : ∃ f : Nat → UInt8, ∀ i, i < len → W.cell? (a.add i) = some (byteV (f i)) :=
      ⟨fun i => if h : i < len then (hb i h).choose else 0, fun i hi => by simp only [dif_pos hi]; exact (hb i hi).choose_spec⟩
    obtain ⟨f, hf⟩ := hf
    refine ⟨some a, cap, (List.range len).map f, by simp, by simpa using h1, h2, fun hq => (by cases hq), ?_⟩
    rintro q hq j x hx
    cases hq
    rw [List.getElem?_map, Option.map_eq_some_iff] at hx
    obtain ⟨i, hi, rfl⟩ := hx
    have hj : j < len := by
      have := (List.getElem?_eq_some_iff.1 hi).1
      simpa using this
    have : i = j := by
      rw [List.getElem?_range hj] at hi
      simpa using hi.symm
    subst this
    exact hf i hj
end

section
variable {P : Program} {fid : Fm} {n : Nat} {post : Post} {k : List Item} {ρ ρ' : Env} {ops rest : List Oper} {g : Option (Nat × Bool)} {ty : TypeId} {pos : String} {af : Array Edge} {d : Nat} {sf : Option (List Bool × List HProp)} {L L' r : List HProp}
/-- a struct that came in is loaded -/
theorem W.loadOA {W : World} {x : Operand} {t sz : Nat} {q : Addr} {vs : List Value} [ht : TAg P t sz] (hv : ∀ (j : Nat) (v : Value), vs[j]? = some v → W.cell? (q.add j) = some v) (hl : vs.length = sz) (h : TO P fid n post ops rest sf k ((d, .agg vs.toArray) :: ρ) L)
    (hw : wants ops ρ g = some true := by rfl) (hd : Nat.blt d n = true := by rfl) (hx : ev ρ x = some (.pointer (some q)) := by rfl) (hp : Pick L (SL.orig W) r := by first | ((repeat (first | exact SL.Pick.head | apply SL.Pick.tail)); done) | fail) :
    TO P fid n post ops (⟨some d, .load t x, ty, pos, af, g⟩ :: rest) sf k ρ L :=
  TO.val hw hd fun w0 F a w gr st => ⟨.agg vs.toArray, L, w, by
    have hc : (loadCells q vs.length).run P w = .ok vs.toArray w := run_loadCells_list w q vs fun j v hj => st.cellO hp (hv j v hj)
    subst hl
    simp [execOp, gr.eval hx, Instr.loadAt, Instr.sureAddr, loadVar, (ht.run w).1, (ht.run w).2, hc], st, h⟩
end
end SL
