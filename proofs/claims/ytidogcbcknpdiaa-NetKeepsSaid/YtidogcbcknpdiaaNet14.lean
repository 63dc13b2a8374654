/-
  Chapter 29: NetKeeps: a round.
-/
import Derived.Test.YtidogcbcknpdiaaNet13
set_option linter.unusedVariables false
set_option linter.unusedSimpArgs false
set_option maxRecDepth 10000
namespace SL
open Go Go.Proofs Go.RowKit

theorem putN_kf (n : Nat) (c : UInt8) (h : n < 4096) : putN n (kf c) = 0 := by
  unfold putN kf mayF
  simp
  omega
theorem allK (nb : Nat) (cs : List UInt8) (h : cs.length ≤ 4096) : Spec Try.prog 8 [.pointer (some ⟨nb, 0, none⟩)] [NetAt nb (cs.map kf)]
    (fun r L => ∃ a cap, r = .slice a cs.length cap ∧ L = [NetAt nb (cs.map kf), FrSl a cap (cs.map kf)]) := by
  have := all_spec nb (cs.map kf) (by simpa using h) (by intro f hf; obtain ⟨c, _, rfl⟩ := List.mem_map.1 hf; simp [kf])
  rwa [List.length_map] at this
theorem putK (nb b : Nat) (cs : List UInt8) (c : UInt8) (h : cs.length < 4096) : Spec Try.prog 9 [.pointer (some ⟨nb, 0, none⟩), .agg (frV (kf c) (some ⟨b, 0, none⟩, 2)).toArray] [NetAt nb (cs.map kf), byt (some ⟨b, 0, none⟩, 2) (kf c).bs]
    (fun r L => r = .int .i64 0 ∧ L = [NetAt nb ((cs ++ [c]).map kf), byt (some ⟨b, 0, none⟩, 2) (kf c).bs]) := by
  have := put_ok nb (cs.map kf) (kf c) (some ⟨b, 0, none⟩, 2) (putN_kf _ c (by simpa using h))
  rwa [show cs.map kf ++ [kf c] = (cs ++ [c]).map kf from by simp] at this
theorem erase_kf (cs : List UInt8) (k : Nat) : (cs.map kf).eraseIdx k = (cs.eraseIdx k).map kf := by
  rw [List.eraseIdx_eq_take_drop_succ, List.eraseIdx_eq_take_drop_succ, List.map_append, List.map_take, List.map_drop]
theorem takeK_in (nb k : Nat) (cs : List UInt8) (c : UInt8) (hk : cs[k]? = some c) (h : cs.length ≤ 4096) : Spec Try.prog 11 [.pointer (some ⟨nb, 0, none⟩), .int .i64 k] [NetAt nb (cs.map kf)]
    (fun r L => ∃ s, r = .tuple #[.agg (frV (kf c) s).toArray, .int .i64 0] ∧ L = [NetAt nb ((cs.eraseIdx k).map kf), byt s (kf c).bs]) := by
  have := take_in nb k (cs.map kf) (kf c) (by rw [List.getElem?_map, hk]; rfl) (by simpa using h)
  rwa [erase_kf] at this
theorem takeK_out (nb : Nat) (k : Int) (cs : List UInt8) (hk : ¬ (0 ≤ k ∧ k < cs.length)) : Spec Try.prog 11 [.pointer (some ⟨nb, 0, none⟩), .int .i64 k] [NetAt nb (cs.map kf)]
    (fun r L => r = .tuple #[.agg zf.toArray, .int .i64 6] ∧ L = [NetAt nb (cs.map kf)]) := take_out nb k (cs.map kf) (by simpa using hk)
theorem dropK_in (nb k : Nat) (cs : List UInt8) (hk : k < cs.length) (h : cs.length ≤ 4096) : Spec Try.prog 13 [.pointer (some ⟨nb, 0, none⟩), .int .i64 k] [NetAt nb (cs.map kf)]
    (fun r L => r = .int .i64 0 ∧ L = [NetAt nb ((cs.eraseIdx k).map kf)]) := by
  have := drop_spec nb k (cs.map kf) (by simpa using h)
  have h1 : (0 : Int) ≤ k ∧ (k : Int) < ((cs.map kf).length : Int) := by simp; omega
  simp only [takeC, takeL, if_pos h1, Int.toNat_natCast, erase_kf] at this
  exact this
theorem dropK_out (nb : Nat) (k : Int) (cs : List UInt8) (hk : ¬ (0 ≤ k ∧ k < cs.length)) (h : cs.length ≤ 4096) : Spec Try.prog 13 [.pointer (some ⟨nb, 0, none⟩), .int .i64 k] [NetAt nb (cs.map kf)]
    (fun r L => r = .int .i64 6 ∧ L = [NetAt nb (cs.map kf)]) := by
  have := drop_spec nb k (cs.map kf) (by simpa using h)
  have h1 : ¬ (0 ≤ k ∧ k < ((cs.map kf).length : Int)) := by simpa using hk
  simp only [takeC, takeL, if_neg h1] at this
  exact this
theorem doubleK_in (nb k : Nat) (cs : List UInt8) (c : UInt8) (hk : cs[k]? = some c) (h : cs.length < 4096) : Spec Try.prog 14 [.pointer (some ⟨nb, 0, none⟩), .int .i64 k] [NetAt nb (cs.map kf)]
    (fun r L => r = .int .i64 0 ∧ L = [NetAt nb ((cs ++ [c]).map kf)]) := by
  have := double_spec nb k (cs.map kf)
  have hlt : k < cs.length := (List.getElem?_eq_some_iff.1 hk).1
  have h1 : (0 : Int) ≤ k ∧ (k : Int) < ((cs.map kf).length : Int) := by simp; omega
  have e := putN_kf (cs.map kf).length c (by simpa using h)
  simp only [doubleC, doubleL, if_pos h1, Int.toNat_natCast, List.getElem?_map, hk, Option.map_some, e, putL, if_true] at this
  rwa [show cs.map kf ++ [kf c] = (cs ++ [c]).map kf from by simp] at this
theorem doubleK_out (nb : Nat) (k : Int) (cs : List UInt8) (hk : ¬ (0 ≤ k ∧ k < cs.length)) : Spec Try.prog 14 [.pointer (some ⟨nb, 0, none⟩), .int .i64 k] [NetAt nb (cs.map kf)]
    (fun r L => r = .int .i64 6 ∧ L = [NetAt nb (cs.map kf)]) := by
  have := double_spec nb k (cs.map kf)
  have h1 : ¬ (0 ≤ k ∧ k < ((cs.map kf).length : Int)) := by simpa using hk
  simp only [doubleC, doubleL, if_neg h1] at this
  exact this
theorem upd_keys {κ : Type} [DecidableEq κ] (q : κ) (v : Value) : ∀ (l : List (κ × Value)), (l.map (·.1)).Nodup → ((upd q v l).map (·.1)).Nodup
  | [], _ => by simp [upd]
  | p :: l, h => by
    have h' := List.nodup_cons.1 (by simpa using h : (p.1 :: l.map (·.1)).Nodup)
    simp only [upd]
    by_cases e : p.1 = q
    · subst e
      simpa using h
    · rw [if_neg e]
      simp only [List.map_cons, List.nodup_cons]
      refine ⟨fun hm => ?_, upd_keys q v l h'.2⟩
      have key : ∀ (l : List (κ × Value)), p.1 ∈ (upd q v l).map (·.1) → p.1 ∈ l.map (·.1) := by
        intro l
        induction l with
        | nil => simp only [upd, List.map_cons, List.map_nil, List.mem_singleton]; intro c; exact absurd c e
        | cons r l ih =>
          simp only [upd]
          by_cases er : r.1 = q
          · simp only [if_pos er, List.map_cons, List.mem_cons]
            rintro (c | c)
            · exact absurd c e
            · exact .inr c
          · simp only [if_neg er, List.map_cons, List.mem_cons]
            rintro (c | c)
            · exact .inl c
            · exact .inr (ih c)
      exact h'.1 (key l hm)
theorem val_of {S : List (Int × Value)} {cs : List UInt8} (h : CntOk S cs) (hn : (S.map (·.1)).Nodup) : ∀ q v, (q, v) ∈ S → v = .int .i64 (cntI cs q) := by
  intro q v hm
  have := h q
  rw [get_nodup hn hm] at this
  exact this
theorem Rd.blkX {b T cap : Nat} {bs : List UInt8} {ex : List Value} : Rd (SL.blk b T (bs.map byteV ++ ex)) (some ⟨b, 0, none⟩) cap bs := by
  refine ⟨fun h => by simp at h, fun P L r k => Src.blk k ?_⟩
  refine ⟨by simp, fun j v hj => ?_⟩
  have hlt : j < (bs.map byteV).length := (List.getElem?_eq_some_iff.1 hj).1
  rw [Nat.zero_add, List.getElem?_append_left hlt]
  exact hj
section
variable {P : Program} {fid n : Nat} {post : Post} {kk : List Item} {ρ : Env} {L r : List HProp}
theorem TK.openThere {al : Option Addr} {cl k : Nat} {cs : List UInt8} {c d : UInt8} (h7 : look 7 ρ = some (.slice al cs.length cl)) (hp : Pick L (FrSl al cl (cs.map kf)) r) (hk : cs[k]? = some c) (hd : kf c = ⟨false, 0, false, 1, [c, d]⟩)
    (h : ∀ b7 ts b8 c8 ex, al = some ⟨b7, 0, none⟩ → nth ts (k * 5 + 4) = some (.slice (some ⟨b8, 0, none⟩) 2 c8) → TK P fid n post kk ρ (SL.blk b7 31 ts :: SL.blk b8 5 ([c, d].map byteV ++ ex) :: r)) : TK P fid n post kk ρ L := by
  have hlt : k < cs.length := (List.getElem?_eq_some_iff.1 hk).1
  refine TK.openFr hp fun fs hfs => ?_
  refine TK.ownPos (e := 31) Pick.head (by rw [List.length_map]; omega) fun b extra ea e1 e2 e3 => ?_
  obtain ⟨p, hpf⟩ : ∃ p, fs[k]? = some p := ⟨fs[k]'(by have := congrArg List.length hfs; simp at this; omega), List.getElem?_eq_getElem _⟩
  obtain ⟨f, s⟩ := p
  have hf : f = ⟨false, 0, false, 1, [c, d]⟩ := by
    have h1 : (fs.map (·.1))[k]? = some f := by rw [List.getElem?_map, hpf]; rfl
    rw [hfs, List.getElem?_map, hk] at h1
    rw [← hd]
    simpa using h1.symm
  subst hf
  have hcut := cellsP_cut (extra := extra) hpf
  obtain ⟨s1, s2⟩ := s
  refine TK.pickFr (Pick.tail Pick.head) hpf ?_
  refine TK.ownPos (e := 5) (a := s1) Pick.head (by simp) fun b8 ex ea8 g1 g2 g3 => ?_
  subst ea8
  have hn : nth (cellsP fs ++ extra) (k * 5 + 4) = some (.slice (some ⟨b8, 0, none⟩) 2 s2) := by
    rw [nth_eq]
    exact Cut.at_ hcut rfl
  exact TK.entD (EntD.cons (Pick.tail (Pick.tail Pick.head)) (EntD.cons Pick.head (EntD.drop1 Pick.head))) (h b (cellsP fs ++ extra) b8 s2 ex ea hn)
end
attribute [local irreducible] SL.TK SL.TO SL.TD SL.PV SL.Pick SL.Frm SL.Ent SL.Sub SL.EvAll SL.seps SL.sep SL.Cut SL.PutAt SL.blk SL.EvP SL.Fill SL.Src SL.EntD SL.own SL.ex SL.fact SL.orig

def keepInv (W : World) (a : Option Addr) (cap nb mb : Nat) (As : List Act) (ρ : Env) (L : List HProp) (m : Nat) : Prop := ∃ (i : Nat) (cs : List UInt8) (S : List (Int × Value)), i ≤ As.length ∧ i ≤ 100 ∧ cs.length ≤ i ∧ (∀ c ∈ cs, c.toNat < 100) ∧ CntOk S cs ∧ (S.map (·.1)).Nodup ∧
  ρ = [(3, .pointer (some ⟨nb, 0, none⟩)), (4, .map (some mb)), (18, .slice a As.length cap), (19, .int .i64 As.length), (20, .int .i64 i)] ∧
  L = [orig W, NetAt nb (cs.map kf), mp (Value.int .u8) mb S] ∧ m = As.length - i

def bodyOf : Code → Code
  | .block _ (.loop c) => c
  | _ => .skip
noncomputable abbrev B3 : Code := bodyOf (loopAt Try.f3 0)

set_option maxHeartbeats 2000000 in
theorem round0 {post : Post} {k : List Item} (W : World) (q : Addr) (cap nb mb i : Nat) (As : List Act) (cs : List UInt8) (S : List (Int × Value)) (what kk bit : Int) (f : Fr) (s : Option Addr × Nat)
    (hlt : i < As.length) (hi99 : i < 100) (hcs : cs.length ≤ i) (h100 : ∀ c ∈ cs, c.toNat < 100) (hSH : Hid (CntOk S cs)) (hnd : Hid ((S.map (·.1)).Nodup))
    (hAc : ∀ j x, (actV ⟨what, kk, bit, f, s⟩)[j]? = some x → W.cell? ((q.add (i * 8)).add j) = some x)
    (ih : ∀ ρ' L' m', keepInv W (some q) cap nb mb As ρ' L' m' → m' < As.length - i → TK Try.prog 3 Try.f3.ntmps post (.inLoop B3 :: k) ρ' L')
    (hw : what = 0) :
    TK Try.prog 3 Try.f3.ntmps post (.code B3 :: .inLoop B3 :: k) [(3, .pointer (some ⟨nb, 0, none⟩)), (4, .map (some mb)), (18, .slice (some q) As.length cap), (19, .int .i64 As.length), (20, .int .i64 i)]
      [orig W, NetAt nb (cs.map kf), mp (Value.int .u8) mb S] := by
  subst hw
  have hic : (UInt8.ofNat i).toNat = i := by simp [UInt8.toNat_ofNat']; omega
  have hic1 : (UInt8.ofNat i + 1).toNat = i + 1 := by rw [UInt8.toNat_add, hic]; simp; omega
  generalize hc0 : UInt8.ofNat i = c0 at hic hic1
  obtain ⟨d, hd, hd1⟩ : ∃ d : UInt8, kf c0 = ⟨false, 0, false, 1, [c0, d]⟩ ∧ d.toNat = i + 1 := ⟨c0 + 1, rfl, hic1⟩
  have h45 := Lib.hid (show Value.int .u8 (i : Int) = byteV c0 by rw [byteV, hic])
  have h48 := Lib.hid (show Value.int .u8 ((i : Int) + 1) = byteV d by rw [byteV, hd1]; rfl)
  clear hic1 hd1
  have hall := allK nb cs (by omega)
  have hallp := allK nb (cs ++ [c0]) (by simp; omega)
  have hput (b : Nat) := putK nb b cs c0 (by omega)
  rw [hd] at hput
  have hlp : (cs ++ [c0]).length ≤ 100 := by simp; omega
  have hlH := Lib.hid (show (cs ++ [c0]).length = cs.length + 1 by simp)
  have h1p : ∀ c ∈ cs ++ [c0], c.toNat < 100 := by
    intro c hc
    rcases List.mem_append.1 hc with hc | hc
    · exact h100 c hc
    · simp at hc; subst hc; omega
  have hSp := hSH.out.add c0
  rw [hic] at hSp
  have hndp := upd_keys (i : Int) (.int .i64 ((cntI cs i : Int) + 1)) S hnd.out
  have hvp := Lib.hid (val_of hSp hndp)
  have hcb0 := cntI_le cs i
  have hPH := Lib.hid (And.intro hSp hndp)
  clear hSp hndp hc0 hd hic
  have hl0 : cs.length ≤ 100 := by omega
  have hv0 := Lib.hid (val_of hSH.out hnd.out)
  repeat' (first | (refine SL.TO.is ?_; first | (refine SL.TO.door (o := ⟨_, .load _ _, _, _, _, _⟩) ?_; first | refine SL.W.loadOA hAc rfl ?_) | (refine SL.TO.door (o := ⟨_, .buildSlice _ _ _, _, _, _, _⟩) ?_; first | (refine SL.TO.slot (d := 45) (by rfl) (v' := byteV c0) h45.out ?_; refine SL.TO.slot (d := 48) (by rfl) (v' := byteV d) h48.out ?_; refine SL.W.buildSlice ?_; intro b)) | (refine SL.TO.door (o := ⟨_, .call ⟨.value (.func 10), _, _⟩, _, _, _, _⟩) ?_; first | (refine SL.W.call (frame_spec _ _ _) ?_; rintro _ _ ⟨rfl, rfl⟩; try simp only [List.cons_append, List.nil_append])) | (refine SL.TO.door (o := ⟨_, .call ⟨.value (.func 9), _, _⟩, _, _, _, _⟩) ?_; first | (refine SL.W.call (hput _) ?_; rintro _ _ ⟨rfl, rfl⟩; try simp only [List.cons_append, List.nil_append])) | (refine SL.TO.door (o := ⟨_, .call ⟨.value (.func 8), _, _⟩, _, _, _, _⟩) ?_; first | (refine SL.W.call (hall) ?_; rintro _ _ ⟨al, cl, rfl, rfl⟩; try simp only [List.cons_append, List.nil_append]) | (refine SL.W.call (hallp) ?_; rintro _ _ ⟨al, cl, rfl, rfl⟩; try simp only [List.cons_append, List.nil_append])) | (refine SL.TO.door (o := ⟨_, .lookup _ _ _ _, _, _, _, _⟩) ?_; first | (refine SL.W.lookup ?_; refine SL.TO.slot (d := 56) (by rfl) (hSH.out _) ?_)) | refine SL.TO.nil ?_ | (refine SL.TO.nilD ?_; simp only [SL.setB]) | refine SL.W.pass ?_ | refine SL.W.pass0 ?_ | (refine SL.W.pure ?_; first | refine SL.W.pv ?_ | refine SL.W.pv0 ?_ | refine SL.W.lenMp ?_ | (refine SL.W.guardP (fun h => ?_) (fun h => ?_) <;> (fail_if_success (have : h = trivial := rfl)) <;> (fail_if_success (have : h = not_false := rfl)) <;> first | contradiction | (exfalso; omega) | (exfalso; revert h; simp; done) | skip) | (refine SL.W.guardB (fun h => ?_) (fun h => ?_) <;> (fail_if_success (have : h = (rfl : true = true) := rfl)) <;> (fail_if_success (have : h = (rfl : false = false) := rfl)))) | (refine SL.W.loud ?_; first | refine SL.W.load ?_ | refine SL.W.loadA ?_ | refine SL.W.store ?_ | refine SL.W.storeA ?_ | (refine SL.W.box ?_; intro b) | (refine SL.W.alloc ?_; intro b) | (refine SL.W.buildSlice ?_; intro b) | (refine SL.W.append ?_; intro a cap) | refine SL.W.bytesToStr ?_ | refine SL.W.pvn (SL.PV.toIntC (by rfl) (by first | exact SL.wrap_i64 (by omega) | exact SL.wrap_u8 (by omega) | exact SL.wrap_u32 (by omega) | exact SL.wrap_u64 (by omega) | rfl)) ?_ | (refine SL.W.makeSlice ?_; intro b) | refine SL.W.lookupOk ?_ | refine SL.W.lookup ?_ | (refine SL.W.makeMap ?_; intro b) | refine SL.W.mapUpdate ?_ | (refine SL.W.mapEntry ?_; intro stamp) | refine SL.W.entryStore ?_ | (refine SL.W.range ?_; intro it) | refine SL.W.delete ?_ | (refine SL.W.guardP (fun h => ?_) (fun h => ?_) <;> (fail_if_success (have : h = trivial := rfl)) <;> (fail_if_success (have : h = not_false := rfl)) <;> first | contradiction | (exfalso; omega) | (exfalso; revert h; simp; done) | skip) | (refine SL.W.guardB (fun h => ?_) (fun h => ?_) <;> (fail_if_success (have : h = (rfl : true = true) := rfl)) <;> (fail_if_success (have : h = (rfl : false = false) := rfl))))) | (refine SL.TK.lp ?_; first | refine SL.W.loop (keeps_recount _ _ _ (cs ++ [c0]) _ _ _ _ _ _ hlp h1p (fun N hN => ?_)) | (refine SL.W.loop (keeps_check mb _ _ _ _ (cs ++ [c0]) _ _ _ _ _ _ hvp ‹CntOk _ (cs ++ [c0])› ?_))) | (refine SL.TK.is ?_; first | refine SL.TK.seq ?_ | refine SL.TK.region ?_ | refine SL.TK.regionD SL.mixed (by simp only [SL.falses] <;> rfl) ?_ | refine SL.TK.block ?_ | refine SL.TK.inBlock ?_ | refine SL.TK.skip ?_ | refine SL.TK.scope ?_ | refine SL.TK.inScope ?_ | refine SL.TK.label ?_ | refine SL.W.exit ?_ | refine SL.W.condT ?_ | refine SL.W.condF ?_ | (refine SL.W.condP (fun h => ?_) (fun h => ?_) <;> (fail_if_success (have : h = trivial := rfl)) <;> (fail_if_success (have : h = not_false := rfl)) <;> first | contradiction | (exfalso; omega) | (exfalso; revert h; simp; done) | skip) | refine SL.W.condB (fun h => ?_) (fun h => ?_)) | (refine SL.TD.is ?_; first | (refine SL.W.dfin ?_; simp only [List.append_nil, List.cons_append, List.nil_append]) | refine SL.W.dpass ?_ | refine SL.W.dpure ?_ | refine SL.W.dload ?_ | refine SL.W.dloadA ?_ | refine SL.W.dfrz ?_ | (refine SL.W.dthaw ?_; simp only [List.append_nil, List.cons_append, List.nil_append]) | (refine SL.W.dguardP (fun h => ?_) (fun h => ?_) <;> (fail_if_success (have : h = trivial := rfl)) <;> (fail_if_success (have : h = not_false := rfl)) <;> first | contradiction | (exfalso; omega) | (exfalso; revert h; simp; done) | skip) | (refine SL.W.dguardB (fun h => ?_) (fun h => ?_) <;> (fail_if_success (have : h = (rfl : true = true) := rfl)) <;> (fail_if_success (have : h = (rfl : false = false) := rfl))) | refine SL.W.done ?_ | refine SL.W.dtwo ?_ ?_ | refine SL.W.dthree ?_ ?_ ?_))

  all_goals
    refine SL.TK.againD ih ⟨i + 1, (cs ++ [c0]), _, by omega, by omega, by (rw [hlH.out]; omega), h1p, hPH.out.1, hPH.out.2, rfl, rfl, rfl⟩ (by first | ((repeat (first | exact SL.Sub.nil | refine SL.Sub.cons (by rfl) (by first | rfl | exact SL.int_eq (by omega)) ?_)); done) | fail) ?_ (by omega)
    exact EntD.cons (by first | ((repeat (first | exact SL.Pick.head | apply SL.Pick.tail)); done) | fail) (EntD.cons (by first | ((repeat (first | exact SL.Pick.head | apply SL.Pick.tail)); done) | fail) (EntD.cons (by first | ((repeat (first | exact SL.Pick.head | apply SL.Pick.tail)); done) | fail) EntD.nil))
end SL
