/-
  Copying between rows, append of zeros that grows, slices.overlaps of two blocks.
-/
import Derived.Test.YtpnlenpglmffdaaMk6
import Derived.Test.YtpnlenpglmffdaaSl16
import GoSem.Extern.SlicesOverlaps
set_option linter.unusedVariables false
set_option linter.unusedSimpArgs false
set_option maxRecDepth 10000
namespace SL
open Go
section
variable {P : Program} {fid : Fm} {n : Nat} {post : Post} {k : List Item} {ρ ρ' : Env} {ops rest : List Oper} {g : Option (Nat × Bool)} {ty : TypeId} {pos : String} {af : Array Edge} {d : Nat} {sf : Option (List Bool × List HProp)} {L L' r : List HProp}
/-- copy: k elements into the block b from off on -/
theorem TO.copy {x y : Operand} {t t' e sz by_ m c m' c' kk b off : Nat} {q : Option Addr} {cs cs' new : List Value} {s2 : Int} [ht : TSl P t e sz by_]
    (hw : wants ops ρ g = some true) (hd : Nat.blt d n = true) (hx : ev ρ x = some (.slice (some ⟨b, off, none⟩) m c)) (hy : ev ρ y = some (.slice q m' c'))
    (hp : Pick L (blk b e cs) r) (hkk : kk = min m' m) (hs : Src P L sz kk (.slice q kk c') new) (h1 : ∀ v ∈ new, v.oneCell' = true) (hv : PutAt cs off new cs') (hs2 : s2 = (kk : Int))
    (h : TO P fid n post ops rest sf k ((d, .int .i64 s2) :: ρ) (blk b e cs' :: r)) :
    TO P fid n post ops (⟨some d, .call ⟨.builtin .copy, [x, y].toArray, [t, t'].toArray⟩, ty, pos, af, g⟩ :: rest) sf k ρ L :=
  TO.val hw hd fun w0 F act w gr st => by
    subst hs2
    obtain ⟨hnl, hsr⟩ := hs
    obtain ⟨hsr1, hsr2⟩ := hsr w0 F w st
    have hsr3 : (Builtin.firstCells sz kk (.slice q m' c')).run P w = .ok new.toArray w := by
      cases q <;> simpa [Builtin.firstCells] using hsr1
    obtain ⟨w', hr, st'⟩ := Sat.stores (P := P) new cs off 0 L r w st hp h1 (by simpa using hv.1)
    refine ⟨.int .i64 (kk : Int), blk b e cs' :: r, w', ?_, ?_, h⟩
    · have hm : Nat.min m' m = kk := hkk.symm
      simp [execOp, resolve, invoke, builtin, gr.eval hx, gr.eval hy, Builtin.copy_, Builtin.lenOf, run_und ht.und, ht.size, hm, hsr3, hr, goInt]
    · have := hv.2
      simp only [Nat.add_zero] at st'
      rw [← this] at st'
      exact st'
theorem PV.capS {dst : Option Nat} {x : Operand} {t e sz by_ len cap : Nat} {p : Option Addr} [ht : TSl P t e sz by_] (hx : ev ρ x = some (.slice p len cap)) : PV P n ρ ⟨dst, .call ⟨.builtin .cap, [x].toArray, [t].toArray⟩, ty, pos, af, g⟩ (.int .i64 cap) := fun a w gr => by
  simp [execOp, resolve, invoke, builtin, gr.eval hx, Builtin.cap_, run_und ht.und, goInt]
/-- append of zeros that does not fit: a new block -/
theorem TO.appendMake {x y : Operand} {t t' e sz by_ m m' cap b off s2 : Nat} {cs old : List Value} {z : Value} {j : Int} [ht : TSl P t e sz by_] [hz : TZe P e z] (hu : P.underlying t' = some (.int .i64))
    (hw : wants ops ρ g = some true) (hd : Nat.blt d n = true) (hx : ev ρ x = some (.slice (some ⟨b, off, none⟩) m cap)) (hy : ev ρ y = some (.int .i64 j)) (hj : j = (m' : Int)) (hzs : z.cells.size = sz)
    (hp : Pick L (blk b e cs) r) (hct : Cut cs off (m * sz) old) (hgr : cap < m + m') (h0 : 0 < m' * sz) (hb0 : by_ ≠ 0) (hb : (m + m') * by_ ≤ 140737488355328) (hs2 : m + m' = s2)
    (h : ∀ (b' cap' : Nat) (more : List Value), s2 ≤ cap' → more.length = (cap' - s2) * sz → TO P fid n post ops rest sf k ((d, .slice (some ⟨b', 0, none⟩) s2 cap') :: ρ) (blk b' e (old ++ zeros z.cells.toList m' ++ more) :: L)) :
    TO P fid n post ops (⟨some d, .call ⟨.builtin .append, [x, y].toArray, [t, t'].toArray⟩, ty, pos, af, g⟩ :: rest) sf k ρ L :=
  TO.val hw hd fun w0 F act w gr st => by
    subst hs2 hj
    have hzero : (underlying t').run P w = .ok (.int .i64) w := run_und hu w
    have hfit : ¬ (m + m' ≤ cap) := by omega
    have hgrow : ¬ Builtin.nextslicecap (m + m') cap * ((P.info? e).getD default).bytes > 281474976710656 := by
      rw [ht.bytes]
      have := growslice_fits (need := m + m') (old := cap) (bytes := by_) (by omega) hb
      omega
    have hc : Question.forced (.appendCap (m + m') cap e) = false := rfl
    have hbne : ((P.info? e).getD default).bytes ≠ 0 := by rw [ht.bytes]; exact hb0
    have hold : (Builtin.firstCells sz m (.slice (some ⟨b, off, Option.none⟩) m cap)).run P w.drew = .ok old.toArray w.drew := by
      simp only [Builtin.firstCells]
      exact (show Sat w0 L F w.drew from st.drawn (w.drawn + 1)).loads hp hct
    have hby : 1 ≤ by_ := by omega
    have hm47 : m + m' ≤ 140737488355328 := Nat.le_trans (Nat.le_mul_of_pos_right _ hby) hb
    have hwr : IntKind.i64.wrap (m' : Int) = (m' : Int) := wrap_i64 (by omega)
    have hmb : ¬ ((m' : Int) * (by_ : Int) > 281474976710656) := by
      have h1 : m' * by_ ≤ (m + m') * by_ := Nat.mul_le_mul_right _ (by omega)
      have h2 : ((m' * by_ : Nat) : Int) ≤ 281474976710656 := by omega
      rw [Int.natCast_mul] at h2
      omega
    have hbig : ¬ ((m + m' : Nat) : Int) > IntKind.i64.max := by
      have : IntKind.i64.max = 9223372036854775807 := rfl
      omega
    have h0' : ¬ (m' * sz = 0) := by omega
    let nc := (Question.appendCap (m + m') cap e).cut (w.tape w.drawn (.appendCap (m + m') cap e))
    have hnc : m + m' ≤ nc := Nat.le_add_right _ _
    have hst := (st.drawn (w.drawn + 1)).new (o := .cells (old.toArray ++ Builtin.zeroCells z.cells m' ++ Builtin.zeroCells z.cells (nc - (m + m'))) e)
    refine ⟨.slice (some ⟨w.heap.size, 0, Option.none⟩) (m + m') nc, blk w.heap.size e (old ++ zeros z.cells.toList m' ++ (Builtin.zeroCells z.cells (nc - (m + m'))).toList) :: L,
      { w with drawn := w.drawn + 1, heap := w.heap.push (.cells (old.toArray ++ Builtin.zeroCells z.cells m' ++ Builtin.zeroCells z.cells (nc - (m + m'))) e) }, ?_, ?_, h _ nc _ hnc (by simp [zeroCells_length, hzs])⟩
    · have has : (asInt (Value.int .i64 (m' : Int))).run P w = .ok (m' : Int) w := rfl
      have hmb' : ¬ 281474976710656 < (m' : Int) * (((P.info? e).getD default).bytes : Int) := by rw [ht.bytes]; exact hmb
      have hneg : ¬ (m' : Int) < 0 := by omega
      have hbig' : ¬ IntKind.i64.max < (m : Int) + (m' : Int) := by
        have : IntKind.i64.max = 9223372036854775807 := rfl
        omega
      have hsz : ¬ (m' = 0 ∨ sz = 0) := by
        rintro (hh | hh) <;> simp [hh] at h0
      simp only [not_or] at hsz
      simp [execOp, resolve, invoke, builtin, gr.eval hx, gr.eval hy, Builtin.append_, run_und ht.und, ht.size, hzero, has, hwr, ht.info, hfit, hgrow, hmb', hneg, hbig', hsz.1, hsz.2, hc, hold, hz.run, newRow, hbne]
      rw [if_neg (by omega), if_neg h0']
      rfl
    · have e1 : (old.toArray ++ Builtin.zeroCells z.cells m' ++ Builtin.zeroCells z.cells (nc - (m + m'))) = (old ++ zeros z.cells.toList m' ++ (Builtin.zeroCells z.cells (nc - (m + m'))).toList).toArray := by
        apply Array.ext'
        have e2 : (Builtin.zeroCells z.cells m').toList = zeros z.cells.toList m' := by
          have := zeros_eq z m'
          unfold Builtin.zeroCells
          rw [this]
        simp [e2]
      rw [e1] at hst ⊢
      exact hst
end
section
variable {P : Program}
theorem blk_ne {w0 : World} {F : HProp} {w : World} {b1 b2 T1 T2 : Nat} {cs1 cs2 : List Value} {L : List HProp} (s : Sat w0 (blk b1 T1 cs1 :: blk b2 T2 cs2 :: L) F w) : b1 ≠ b2 := by
  rintro rfl
  obtain ⟨hp, hs, h1, h2, d, rfl, x, y⟩ := s.heap
  obtain ⟨h3, h4, d', rfl, p, q⟩ := x
  obtain ⟨h5, h6, d'', rfl, p2, q2⟩ := q
  have e1 := p b1
  have e2 := p2 b1
  simp at e1 e2
  rcases d' b1 with e | e
  · rw [e] at e1; cases e1
  · simp only [join, e2] at e
    cases e
/-- slices.overlaps: two blocks -/
theorem Ext.overlaps {f : Nat} {fn : Func} {t t2 e sz by_ : Nat} {b1 o1 n1 c1 b2 o2 n2 c2 T1 T2 : Nat} {cs1 cs2 : List Value} [ht : TSl P t e sz by_] (hf : P.funcs[f]? = some fn) (hname : (fn.name == "runtime.NumGoroutine") = false) (hb : fn.body.isNone = true) (hn : Extern.findNext fn = none)
    (he : Extern.find fn = some (Extern.SlicesOverlaps.overlaps [t, t2].toArray fn.resultTypes)) :
    Ext P f [.slice (some ⟨b1, o1, none⟩) n1 c1, .slice (some ⟨b2, o2, none⟩) n2 c2] [blk b1 T1 cs1, blk b2 T2 cs2] (fun r L => r = .bool false ∧ L = [blk b1 T1 cs1, blk b2 T2 cs2]) := by
  intro w0 F w s
  have hne := blk_ne s
  have f1 := s.unfrozen Pick.head
  have r1 := s.read Pick.head
  have f2 := s.unfrozen (Pick.tail Pick.head)
  have r2 := s.read (Pick.tail Pick.head)
  refine ⟨.bool false, w, _, ?_, ⟨rfl, rfl⟩, s⟩
  rw [run_callFunc_extern hf hname hb hn he]
  have e : Extern.SlicesOverlaps.overlaps [t, t2].toArray fn.resultTypes [Value.slice (some ⟨b1, o1, none⟩) n1 c1, .slice (some ⟨b2, o2, none⟩) n2 c2].toArray =
      (underlying t >>= fun dd => match dd with
        | .slice elem => (sizeOf elem >>= fun size =>
          if n1 = 0 ∨ n2 = 0 ∨ size = 0 then pure (.bool false)
          else (Go.frozen ⟨b1, o1, none⟩ >>= fun fa => Go.frozen ⟨b2, o2, none⟩ >>= fun fb =>
            if (b1 != b2 && fa && fb) = true then unsupported .addressObserved
            else if (b1 != b2) = true then (noView ⟨b1, o1, none⟩ >>= fun _ => noView ⟨b2, o2, none⟩ >>= fun _ => mayBeOne ⟨b1, o1, none⟩ ⟨b2, o2, none⟩ >>= fun mb =>
              if mb = true then (choose (.extern "sameAddr.stringBytes" 2) >>= fun c => pure (.bool (c == 1)))
              else pure (.bool (b1 == b2 && decide (o1 < o2 + n2 * size) && decide (o2 < o1 + n1 * size))))
            else pure (.bool (b1 == b2 && decide (o1 < o2 + n2 * size) && decide (o2 < o1 + n1 * size)))))
        | _ => stuck "slices.overlaps: slice type expected") := rfl
  rw [e]
  have hsh1 : w.shape? b1 = some (T1, cs1.length) := by simp [World.shape?, r1]
  have hsh2 : w.shape? b2 = some (T2, cs2.length) := by simp [World.shape?, r2]
  simp [run_und ht.und, ht.size, hne, f1, f2, noView, viewAt, mayBeOne, stringish, hsh1, hsh2]
end
end SL
