/-
  Literals of structs, arrays and slices; make.
-/
import Derived.Test.YtpnlenpglmffdaaSl5
set_option linter.unusedVariables false
set_option linter.unusedSimpArgs false
namespace SL
open Go

def layF (P : Program) : List Field → Option (List (Nat × Nat))
  | [] => some []
  | f :: l => match P.info? f.type with
    | some i => (layF P l).map ((f.offset, i.size) :: ·)
    | none => none
def layA (sz : Nat) : Nat → Nat → List (Nat × Nat)
  | _, 0 => []
  | i, n + 1 => (i * sz, sz) :: layA sz (i + 1) n
/-- where the parts of a struct or an array lie -/
def layOf (P : Program) (t : Nat) : Option (List (Nat × Nat)) := match P.underlying t with
  | some (.struct fs) => layF P fs.toList
  | some (.array n e) => match P.info? e with
    | some i => some (layA i.size 0 n)
    | none => none
  | _ => none
class TSt (P : Program) (t : Nat) (zs : outParam (List Value)) (lay : outParam (List (Nat × Nat))) : Prop where
  zero : ∀ w : World, (zeroValue t).run P w = Go.Result.ok (.agg zs.toArray) w
  lay : layOf P t = some lay

def EvP (ρ : Env) (ps : List (Nat × Operand)) (vs : List (Nat × Value)) : Prop := ps.map (fun p => (ev ρ p.2).map (p.1, ·)) = vs.map some
theorem EvP.nil {ρ : Env} : EvP ρ [] [] := rfl
theorem EvP.cons {ρ : Env} {i : Nat} {x : Operand} {v : Value} {ps : List (Nat × Operand)} {vs : List (Nat × Value)} (h : ev ρ x = some v) (t : EvP ρ ps vs) : EvP ρ ((i, x) :: ps) ((i, v) :: vs) := by
  unfold EvP at *
  simp [h, t]
theorem EvP.map {n : Nat} {ρ : Env} {a : Act} (g : Agree n ρ a) : ∀ {ps : List (Nat × Operand)} {vs : List (Nat × Value)} (h : EvP ρ ps vs), ps.map (fun p => (p.1, a.eval p.2)) = vs
  | [], [], _ => rfl
  | [], _ :: _, h => by simp [EvP] at h
  | _ :: _, [], h => by simp [EvP] at h
  | p :: ps, v :: vs, h => by
    simp only [EvP, List.map_cons, List.cons.injEq, Option.map_eq_some_iff] at h
    obtain ⟨⟨u, h1, h2⟩, h3⟩ := h
    simp only [List.map_cons, g.eval h1, EvP.map g h3, h2]

def Fill (lay : List (Nat × Nat)) (zs : List Value) (vs : List (Nat × Value)) (cs : List Value) : Prop :=
  Instr.fill (nth lay) zs.toArray vs = some cs.toArray
theorem Fill.nil {lay : List (Nat × Nat)} {zs : List Value} : Fill lay zs [] zs := by simp [Fill, Instr.fill]
theorem fold_set : ∀ (us : List Value) (off j : Nat) (cs : List Value), off + j + us.length ≤ cs.length →
    (us.zipIdx j).foldl (fun (acc : Array Value) p => acc.setIfInBounds (off + p.2) p.1) cs.toArray = (cs.take (off + j) ++ us ++ cs.drop (off + j + us.length)).toArray
  | [], off, j, cs, h => by simp
  | u :: us, off, j, cs, h => by
    simp only [List.zipIdx_cons, List.foldl_cons]
    have e : cs.toArray.setIfInBounds (off + j) u = (cs.set (off + j) u).toArray := by simp
    rw [e, fold_set us off (j + 1) (cs.set (off + j) u) (by simp at h ⊢; omega)]
    have hlt : off + j < cs.length := by simp at h; omega
    congr 1
    rw [List.drop_set_of_lt (by omega), show off + (j + 1) = (off + j) + 1 from by omega, List.take_add_one, List.take_set_of_le (by omega)]
    simp [hlt, show off + j + 1 + us.length = off + j + (us.length + 1) from by omega]
theorem Fill.cons {lay : List (Nat × Nat)} {zs zs' us cs : List Value} {i off sz : Nat} {v : Value} {vs : List (Nat × Value)} (h1 : nth lay i = some (off, sz)) (h2 : v.cells = us.toArray) (h3 : us.length = sz)
    (h4 : PutAt zs off us zs') (h : Fill lay zs' vs cs) : Fill lay zs ((i, v) :: vs) cs := by
  obtain ⟨ha, hb⟩ := h4
  unfold Fill at *
  simp only [Instr.fill, h1, h2]
  rw [if_neg (by simp [h3] at ha ⊢; omega)]
  have := fold_set us off 0 zs (by simpa using ha)
  rw [Nat.add_zero] at this
  have e : us.toArray.zipIdx.foldl (fun cs (x : Value × Nat) => cs.setIfInBounds (off + x.2) x.1) zs.toArray = zs'.toArray := by
    rw [hb, ← this, ← Array.foldl_toList]
    simp
  simp only [e] 
  exact h

theorem range0 : Array.range 0 = #[] := by
  apply Array.ext'
  simp [Array.toList_range]

/-- the cells of a slice's literal before its parts are laid -/
def zeros (z : List Value) : Nat → List Value
  | 0 => []
  | n + 1 => z ++ zeros z n
theorem zeros_length (z : List Value) (n : Nat) : (zeros z n).length = n * z.length := by
  induction n with
  | zero => simp [zeros]
  | succ n ih => simp [zeros, ih, Nat.add_mul]; omega
theorem zeros_getElem? (z : List Value) : ∀ (n j : Nat), j < n * z.length → (zeros z n)[j]? = z[j % z.length]?
  | 0, j, h => by simp at h
  | n + 1, j, h => by
    simp only [zeros]
    by_cases hj : j < z.length
    · rw [List.getElem?_append_left hj, Nat.mod_eq_of_lt hj]
    · have hm : j % z.length = (j - z.length) % z.length := Nat.mod_eq_sub_mod (by omega)
      rw [List.getElem?_append_right (by omega), zeros_getElem? z n (j - z.length) (by rw [Nat.add_mul] at h; omega), hm]
theorem zeros_eq (z : Value) (n : Nat) : ((Array.range (n * z.cells.size)).map fun i => z.cells[i % z.cells.size]!) = (zeros z.cells.toList n).toArray := by
  apply Array.ext'
  apply List.ext_getElem?
  intro j
  by_cases hj : j < n * z.cells.size
  · have h0 : 0 < z.cells.size := by
      rcases Nat.eq_zero_or_pos z.cells.size with h | h
      · rw [h] at hj; simp at hj
      · exact h
    have hm : j % z.cells.size < z.cells.size := Nat.mod_lt _ h0
    have hm' : j % z.cells.toList.length < z.cells.size := by simpa using hm
    have := zeros_getElem? z.cells.toList n j (by simpa using hj)
    simp only [this]
    have hg : z.cells[j % z.cells.size]! = z.cells[j % z.cells.size] := getElem!_pos z.cells (j % z.cells.size) hm
    simp [hj, hg, hm]
  · have h1 : (zeros z.cells.toList n).length ≤ j := by rw [zeros_length]; simp; omega
    rw [List.getElem?_eq_none h1]
    simp
    omega

variable {w0 w : World} {L L' r : List HProp} {F : HProp}
variable {P : Program} {fid : Fm} {n : Nat} {post : Post} {k : List Item} {ρ ρ' : Env} {ops rest : List Oper} {g : Option (Nat × Bool)} {ty : TypeId} {pos : String} {af : Array Edge} {d : Nat} {sf : Option (List Bool × List HProp)}

theorem layF_spec : ∀ {fs : List Field} {lay : List (Nat × Nat)}, layF P fs = some lay → ∀ (w : World), (fs.mapM fun f => (do pure (f.offset, ← Go.sizeOf f.type) : Sem (Nat × Nat))).run P w = .ok lay w
  | [], lay, h, w => by simp [layF] at h; subst h; simp
  | f :: fs, lay, h, w => by
    simp only [layF] at h
    cases hi : P.info? f.type with
    | none => simp [hi] at h
    | some i =>
      simp only [hi, Option.map_eq_some_iff] at h
      obtain ⟨l, h1, h2⟩ := h
      subst h2
      have ih := layF_spec h1 w
      have hs : (Go.sizeOf f.type).run P w = .ok i.size w := by simp [Go.sizeOf, typeInfo, hi]
      simp only [List.mapM_cons, Sem.run_bind, hs, Result.andThen_ok, Sem.run_pure, ih]

theorem nth_layA (sz : Nat) : ∀ (n i j : Nat), nth (layA sz i n) j = if j < n then some ((i + j) * sz, sz) else none
  | 0, i, j => by simp [layA, nth]
  | n + 1, i, 0 => by simp [layA, nth]
  | n + 1, i, j + 1 => by
    simp only [layA, nth, nth_layA sz n (i + 1) j]
    simp [Nat.add_assoc, Nat.add_comm 1 j]

theorem fill_congr {p q : Nat → Option (Nat × Nat)} : ∀ (vs : List (Nat × Value)) (cs : Array Value), (∀ x ∈ vs, p x.1 = q x.1) → Instr.fill p cs vs = Instr.fill q cs vs
  | [], cs, _ => rfl
  | (i, v) :: vs, cs, h => by
    simp only [Instr.fill, h (i, v) (by simp)]
    cases q i with
    | none => rfl
    | some x =>
      simp only []
      split
      · rfl
      · exact fill_congr vs _ fun y hy => h y (by simp [hy])

theorem PV.build {dst : Option Nat} {t : Nat} {zs cs : List Value} {lay : List (Nat × Nat)} {ps : List (Nat × Operand)} {vs : List (Nat × Value)} [ht : TSt P t zs lay]
    (he : EvP ρ ps vs) (hf : Fill lay zs vs cs) : PV P n ρ ⟨dst, .build t ps.toArray, ty, pos, af, g⟩ (.agg cs.toArray) := fun a w gr => by
  have hl := ht.lay
  unfold layOf at hl
  have e : (ps.toArray.map fun (x : Nat × Operand) => (x.1, a.eval x.2)) = vs.toArray := by
    rw [List.map_toArray, EvP.map gr he]
  cases hu : P.underlying t with
  | none => simp [hu] at hl
  | some dd =>
    cases dd <;> simp [hu] at hl
    case struct fs =>
      have hm := layF_spec hl w
      have hm' : (fs.mapM fun f => (do pure (f.offset, ← Go.sizeOf f.type) : Sem (Nat × Nat))).run P w = .ok lay.toArray w := by
        rw [Array.mapM_eq_mapM_toList]
        simp only [Sem.run_map, hm, Result.andThen_ok]
      have hf' : Instr.fill (fun x => lay.toArray[x]?) zs.toArray vs = some cs.toArray := by
        rw [← hf]
        exact fill_congr vs _ fun x _ => by simp [nth_eq]
      simp only [execOp, Sem.run_bind, Instr.build, ht.zero, Result.andThen_ok, run_und hu, hm', e, Value.cells, hf', Sem.run_pure]
    case array m el =>
      cases hi : P.info? el with
      | none => simp [hi] at hl
      | some i =>
        simp [hi] at hl
        have hs : (Go.sizeOf el).run P w = .ok i.size w := by simp [Go.sizeOf, typeInfo, hi]
        have hf' : Instr.fill (fun x => some (x * i.size, i.size)) zs.toArray vs = some cs.toArray := by
          have aux : ∀ (vs : List (Nat × Value)) (c c' : Array Value), Instr.fill (nth lay) c vs = some c' → Instr.fill (fun x => some (x * i.size, i.size)) c vs = some c' := by
            intro vs
            induction vs with
            | nil => intro c c' h; exact h
            | cons x vs ih =>
              obtain ⟨j, v⟩ := x
              intro c c' h
              simp only [Instr.fill] at h ⊢
              rw [← hl, nth_layA] at h
              by_cases hj : j < m
              · simp only [hj, if_true, Nat.zero_add] at h
                split
                · rename_i hc; rw [if_pos hc] at h; cases h
                · rename_i hc; rw [if_neg hc] at h; exact ih _ _ (by rw [← hl]; exact h)
              · simp [hj] at h
          exact aux _ _ _ hf
        simp only [execOp, Sem.run_bind, Instr.build, ht.zero, Result.andThen_ok, run_und hu, e, Value.cells, hs, hf', Sem.run_pure]

theorem fold_size : ∀ (us : List (Value × Nat)) (off : Nat) (cs : Array Value), (us.foldl (fun (acc : Array Value) p => acc.setIfInBounds (off + p.2) p.1) cs).size = cs.size
  | [], off, cs => rfl
  | u :: us, off, cs => by simp only [List.foldl_cons, fold_size us, Array.size_setIfInBounds]
theorem fill_size {p : Nat → Option (Nat × Nat)} : ∀ (vs : List (Nat × Value)) (cs cs' : Array Value), Instr.fill p cs vs = some cs' → cs'.size = cs.size
  | [], cs, cs', h => by simp [Instr.fill] at h; rw [h]
  | (i, v) :: vs, cs, cs', h => by
    simp only [Instr.fill] at h
    cases hp : p i with
    | none => simp [hp] at h
    | some x =>
      simp only [hp] at h
      split at h
      · cases h
      · rw [fill_size vs _ _ h, ← Array.foldl_toList]
        exact fold_size _ _ _
theorem Fill.length {lay : List (Nat × Nat)} {zs cs : List Value} {vs : List (Nat × Value)} (h : Fill lay zs vs cs) : cs.length = zs.length := by
  have := fill_size _ _ _ h
  simpa using this

/-- a slice's literal: a new block -/
theorem TO.buildSlice {t e sz by_ len : Nat} {z : Value} {zs0 cs : List Value} {ps : List (Nat × Operand)} {vs : List (Nat × Value)} [ht : TSl P t e sz by_] [hz : TZe P e z]
    (hw : wants ops ρ g = some true) (hd : Nat.blt d n = true) (hzs : z.cells.size = sz) (hsm : len * sz ≤ 16777216) (he : EvP ρ ps vs) (hz0 : zeros z.cells.toList len = zs0) (hf : Fill (layA sz 0 len) zs0 vs cs)
    (h : ∀ b, TO P fid n post ops rest sf k ((d, .slice (some ⟨b, 0, none⟩) len len) :: ρ) (own e sz (some ⟨b, 0, none⟩) len len cs :: L)) : TO P fid n post ops (⟨some d, .buildSlice t len ps.toArray, ty, pos, af, g⟩ :: rest) sf k ρ L :=
  TO.val hw hd fun w0 F a w gr st => by
    subst hz0
    have hcl : cs.length = len * sz := by rw [hf.length, zeros_length]; simp [hzs]
    refine ⟨.slice (some ⟨w.heap.size, 0, none⟩) len len, own e sz (some ⟨w.heap.size, 0, none⟩) len len cs :: L, { w with heap := w.heap.push (.cells cs.toArray e) }, ?_, st.new.map (fun hp x => sep_mono (fun h' y => SL.own_blk (extra := []) hcl (by simpa using hcl) (Nat.le_refl _) (by rw [List.append_nil]; exact y)) (fun _ y => y) x), h w.heap.size⟩
    have e1 : (ps.toArray.map fun (x : Nat × Operand) => (x.1, a.eval x.2)) = vs.toArray := by
      rw [List.map_toArray, EvP.map gr he]
    have e2 : ((Array.range (len * sz)).map fun i => z.cells[i % z.cells.size]!) = (zeros z.cells.toList len).toArray := by rw [← hzs]; exact zeros_eq z len
    have hf' : Instr.fill (fun x => some (x * sz, sz)) (zeros z.cells.toList len).toArray vs = some cs.toArray := by
      have aux : ∀ (vs : List (Nat × Value)) (c c' : Array Value), Instr.fill (nth (layA sz 0 len)) c vs = some c' → Instr.fill (fun x => some (x * sz, sz)) c vs = some c' := by
        intro vs
        induction vs with
        | nil => intro c c' h; exact h
        | cons x vs ih =>
          obtain ⟨j, v⟩ := x
          intro c c' h
          simp only [Instr.fill] at h ⊢
          rw [nth_layA] at h
          by_cases hj : j < len
          · simp only [hj, if_true, Nat.zero_add] at h
            split
            · rename_i hc; rw [if_pos hc] at h; cases h
            · rename_i hc; rw [if_neg hc] at h; exact ih _ _ h
          · simp [hj] at h
      exact aux _ _ _ hf
    simp only [execOp, Sem.run_bind, Instr.buildSlice, run_und ht.und, Result.andThen_ok, ht.size, e1]
    rw [if_neg (by omega)]
    by_cases h0 : len * sz = 0
    · have hzl : zeros z.cells.toList len = [] := by
        apply List.eq_nil_of_length_eq_zero
        rw [zeros_length]; simpa [hzs] using h0
      rw [hzl] at hf'
      simp [h0, range0, hf', newRow]
    · simp [h0, hz.run, e2, hf', newRow]

/-- make with a size -/
theorem TO.makeSlice {t e sz by_ len cap : Nat} {x y : Operand} {kd kd' : IntKind} {i j : Int} {z : Value} [ht : TSl P t e sz by_] [hz : TZe P e z]
    (hw : wants ops ρ g = some true) (hd : Nat.blt d n = true) (hx : ev ρ x = some (.int kd i)) (hy : ev ρ y = some (.int kd' j)) (hi : i = len) (hj : j = cap) (hlc : len ≤ cap) (hzs : z.cells.size = sz) (hb : cap * by_ ≤ 140737488355328) (hc : cap ≤ 140737488355328)
    (h : ∀ b, TO P fid n post ops rest sf k ((d, .slice (some ⟨b, 0, none⟩) len cap) :: ρ) (own e sz (some ⟨b, 0, none⟩) len cap (zeros z.cells.toList len) :: L)) : TO P fid n post ops (⟨some d, .makeSlice t x y, ty, pos, af, g⟩ :: rest) sf k ρ L :=
  TO.val hw hd fun w0 F a w gr st => by
    subst hi hj
    have hwr : IntKind.i64.wrap (len : Int) = len := IntWalk.i64_in _ ⟨by omega, by omega⟩
    have hwr' : IntKind.i64.wrap (cap : Int) = cap := IntWalk.i64_in _ ⟨by omega, by omega⟩
    have e2 : ((Array.range (cap * sz)).map fun i => z.cells[i % z.cells.size]!) = (zeros z.cells.toList cap).toArray := by rw [← hzs]; exact zeros_eq z cap
    refine ⟨.slice (some ⟨w.heap.size, 0, none⟩) len cap, own e sz (some ⟨w.heap.size, 0, none⟩) len cap (zeros z.cells.toList len) :: L, { w with heap := w.heap.push (.cells (zeros z.cells.toList cap).toArray e) }, ?_, st.new.map ?_, h w.heap.size⟩
    · have hbig : ¬ ((((P.info? e).getD default).bytes : Int) * (cap : Int) > 281474976710656) := by
        rw [ht.bytes]
        have : (by_ : Int) * (cap : Int) = ((cap * by_ : Nat) : Int) := by rw [Int.mul_comm]; simp
        rw [this]
        omega
      simp only [execOp, Sem.run_bind, Instr.makeSlice, run_und ht.und, Result.andThen_ok, gr.eval hx, gr.eval hy, asInt, asIntOf, Sem.run_pure, ht.info, hwr, hwr']
      have hc1 : ¬ ((decide ((cap : Int) < 0) || decide ((((P.info? e).getD default).bytes : Int) * (cap : Int) > 2 ^ 48) || decide ((len : Int) < 0) || decide ((len : Int) > (cap : Int))) = true) := by
        simp only [Bool.or_eq_true, decide_eq_true_eq]
        have hp : (2 : Int) ^ 48 = 281474976710656 := by decide
        rintro (((h | h) | h) | h)
        · omega
        · rw [hp] at h; exact hbig h
        · omega
        · omega
      rw [if_neg hc1]
      by_cases h0 : cap * sz = 0
      · have hzl : zeros z.cells.toList cap = [] := by
          apply List.eq_nil_of_length_eq_zero
          rw [zeros_length]; simpa [hzs] using h0
        simp [ht.size, h0, newRow, hzl, range0]
      · simp [ht.size, h0, hz.run, newRow, e2]
    · intro hp' x
      refine sep_mono (fun h' x => ?_) (fun _ x => x) x
      have hsplit : zeros z.cells.toList cap = zeros z.cells.toList len ++ zeros z.cells.toList (cap - len) := by
        have aux : ∀ p q, zeros z.cells.toList (p + q) = zeros z.cells.toList p ++ zeros z.cells.toList q := by
          intro p q
          induction p with
          | zero => simp [zeros]
          | succ p ih => rw [show p + 1 + q = (p + q) + 1 from by omega]; simp [zeros, ih]
        rw [← aux]; congr 1; omega
      refine SL.own_blk (extra := zeros z.cells.toList (cap - len)) (by rw [zeros_length]; simp [hzs]) (by rw [← hsplit, zeros_length]; simp [hzs]) hlc ?_
      rw [← hsplit]
      exact x
end SL
