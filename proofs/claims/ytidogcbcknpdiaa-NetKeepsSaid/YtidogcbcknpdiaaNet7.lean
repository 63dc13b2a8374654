/-
  Chapter 29: the contract of Flip.
-/
import Derived.Test.YtidogcbcknpdiaaNet6
set_option linter.unusedVariables false
set_option linter.unusedSimpArgs false
set_option maxRecDepth 10000
namespace SL
open Go Go.Proofs
attribute [local irreducible] SL.TK SL.TO SL.TD SL.PV SL.Pick SL.Frm SL.Ent SL.Sub SL.EvAll SL.seps SL.sep SL.Cut SL.PutAt SL.blk SL.EvP SL.Fill SL.Src SL.EntD SL.own SL.ex SL.fact SL.orig

theorem cut_nth {cs vs : List Value} {off n j : Nat} {v : Value} (h : Cut cs off n vs) (hv : nth vs j = some v) : nth cs (off + j) = some v := by
  rw [nth_eq] at hv ⊢
  exact Cut.at_ h hv

theorem flip1_out (nb b vb cap k : Nat) (q : Int) (fs : Frs) (extra : List Value) (f : Fr) (s : Option Addr × Nat) (hk : fs[k]? = some (f, s)) (hq : q < 0 ∨ (f.bs.length : Int) ≤ q / 8) (hb : f.bs.length ≤ 1048576) (hr : -9223372036854775808 ≤ q ∧ q ≤ 9223372036854775807) :
    Spec Try.prog 33 (.pointer (some ⟨b, k * 5, none⟩) :: [.pointer (some ⟨vb, 0, none⟩)])
      (blk nb 65 [.slice (some ⟨b, 0, none⟩) fs.length cap, .bool true] :: [blk b 31 (cellsP fs ++ extra), blk vb 3 [.int .i64 q]])
      (fun r L => r = .int .i64 1 ∧ L = [blk nb 65 [.slice (some ⟨b, 0, none⟩) fs.length cap, .bool true], blk b 31 (cellsP fs ++ extra)]) := by
  have hcut := cellsP_cut (extra := extra) hk
  have hn := cut_nth (j := 4) (v := .slice s.1 f.bs.length s.2) hcut (by rfl)
  by_cases h0 : q < 0
  · refine SL.Spec.of_TK Go.Proofs.Try.func33 rfl rfl SL.call33 rfl ?_
    repeat' (first | (refine SL.TO.is ?_; first | refine SL.TO.nil ?_ | (refine SL.TO.nilD ?_; simp only [SL.setB]) | refine SL.W.pass ?_ | refine SL.W.pass0 ?_ | (refine SL.W.pure ?_; first | refine SL.W.pv ?_ | refine SL.W.pv0 ?_ | refine SL.W.lenMp ?_ | (refine SL.W.guardP (fun h => ?_) (fun h => ?_) <;> first | contradiction | (exfalso; omega) | (exfalso; revert h; simp; done) | skip) | (refine SL.W.guardB (fun h => ?_) (fun h => ?_) <;> (fail_if_success (have : h = (rfl : true = true) := rfl)))) | (refine SL.W.loud ?_; first | refine SL.W.load ?_ | refine SL.W.loadA ?_ | refine SL.W.store ?_ | refine SL.W.storeA ?_ | (refine SL.W.box ?_; intro b) | (refine SL.W.alloc ?_; intro b) | (refine SL.W.buildSlice ?_; intro b) | (refine SL.W.append ?_; intro a cap) | refine SL.W.bytesToStr ?_ | (refine SL.W.makeSlice ?_; intro b) | refine SL.W.lookupOk ?_ | refine SL.W.lookup ?_ | (refine SL.W.makeMap ?_; intro b) | refine SL.W.mapUpdate ?_ | (refine SL.W.mapEntry ?_; intro stamp) | refine SL.W.entryStore ?_ | (refine SL.W.range ?_; intro it) | refine SL.W.delete ?_ | (refine SL.W.guardP (fun h => ?_) (fun h => ?_) <;> first | contradiction | (exfalso; omega) | (exfalso; revert h; simp; done) | skip) | (refine SL.W.guardB (fun h => ?_) (fun h => ?_) <;> (fail_if_success (have : h = (rfl : true = true) := rfl))))) | (refine SL.TK.is ?_; first | refine SL.TK.seq ?_ | refine SL.TK.region ?_ | refine SL.TK.regionD SL.mixed (by simp only [SL.falses] <;> rfl) ?_ | refine SL.TK.block ?_ | refine SL.TK.inBlock ?_ | refine SL.TK.skip ?_ | refine SL.TK.scope ?_ | refine SL.TK.inScope ?_ | refine SL.TK.label ?_ | refine SL.W.exit ?_ | refine SL.W.condT ?_ | refine SL.W.condF ?_ | (refine SL.W.condP (fun h => ?_) (fun h => ?_) <;> first | contradiction | (exfalso; omega) | (exfalso; revert h; simp; done) | skip) | refine SL.W.condB (fun h => ?_) (fun h => ?_)) | (refine SL.TD.is ?_; first | (refine SL.TD.fin (by rfl) ?_; simp only [List.append_nil, List.cons_append, List.nil_append]) | refine SL.W.dpass ?_ | refine SL.W.dpure ?_ | refine SL.W.dload ?_ | refine SL.W.dloadA ?_ | refine SL.W.dfrz ?_ | (refine SL.W.dthaw ?_; simp only [List.append_nil, List.cons_append, List.nil_append]) | (refine SL.W.dguardP (fun h => ?_) (fun h => ?_) <;> first | contradiction | (exfalso; omega) | (exfalso; revert h; simp; done) | skip) | (refine SL.W.dguardB (fun h => ?_) (fun h => ?_) <;> (fail_if_success (have : h = (rfl : true = true) := rfl))) | refine SL.W.done ?_ | refine SL.W.dtwo ?_ ?_ | refine SL.W.dthree ?_ ?_ ?_))
    all_goals exact SL.TK.retD Try.func33 (SL.Res.one rfl (by rfl)) ⟨rfl, rfl⟩ (EntD.cons (by first | ((repeat (first | exact SL.Pick.head | apply SL.Pick.tail)); done) | fail) (EntD.cons (by first | ((repeat (first | exact SL.Pick.head | apply SL.Pick.tail)); done) | fail) EntD.nil))
  · have h8 : (f.bs.length : Int) ≤ q / 8 := by omega
    clear hq
    refine SL.Spec.of_TK Go.Proofs.Try.func33 rfl rfl SL.call33 rfl ?_
    repeat' (first | refine SL.TD.loadC (by rfl) (by rfl) (by infer_instance) (by rfl) rfl (by rfl) (by rfl) (by rfl) (by first | ((repeat (first | exact SL.Pick.head | apply SL.Pick.tail)); done) | fail) hn (by simp only [SL.setB] <;> rfl) ?_ | (refine SL.TO.is ?_; first | refine SL.TO.nil ?_ | (refine SL.TO.nilD ?_; simp only [SL.setB]) | refine SL.W.pass ?_ | refine SL.W.pass0 ?_ | (refine SL.W.pure ?_; first | refine SL.W.pv ?_ | refine SL.W.pv0 ?_ | refine SL.W.lenMp ?_ | (refine SL.W.guardP (fun h => ?_) (fun h => ?_) <;> first | contradiction | (exfalso; omega) | (exfalso; revert h; simp; done) | skip) | (refine SL.W.guardB (fun h => ?_) (fun h => ?_) <;> (fail_if_success (have : h = (rfl : true = true) := rfl)))) | (refine SL.W.loud ?_; first | refine SL.W.load ?_ | refine SL.W.loadA ?_ | refine SL.W.store ?_ | refine SL.W.storeA ?_ | (refine SL.W.box ?_; intro b) | (refine SL.W.alloc ?_; intro b) | (refine SL.W.buildSlice ?_; intro b) | (refine SL.W.append ?_; intro a cap) | refine SL.W.bytesToStr ?_ | (refine SL.W.makeSlice ?_; intro b) | refine SL.W.lookupOk ?_ | refine SL.W.lookup ?_ | (refine SL.W.makeMap ?_; intro b) | refine SL.W.mapUpdate ?_ | (refine SL.W.mapEntry ?_; intro stamp) | refine SL.W.entryStore ?_ | (refine SL.W.range ?_; intro it) | refine SL.W.delete ?_ | (refine SL.W.guardP (fun h => ?_) (fun h => ?_) <;> first | contradiction | (exfalso; omega) | (exfalso; revert h; simp; done) | skip) | (refine SL.W.guardB (fun h => ?_) (fun h => ?_) <;> (fail_if_success (have : h = (rfl : true = true) := rfl))))) | (refine SL.TK.is ?_; first | refine SL.TK.seq ?_ | refine SL.TK.region ?_ | refine SL.TK.regionD SL.mixed (by simp only [SL.falses] <;> rfl) ?_ | refine SL.TK.block ?_ | refine SL.TK.inBlock ?_ | refine SL.TK.skip ?_ | refine SL.TK.scope ?_ | refine SL.TK.inScope ?_ | refine SL.TK.label ?_ | refine SL.W.exit ?_ | refine SL.W.condT ?_ | refine SL.W.condF ?_ | (refine SL.W.condP (fun h => ?_) (fun h => ?_) <;> first | contradiction | (exfalso; omega) | (exfalso; revert h; simp; done) | skip) | refine SL.W.condB (fun h => ?_) (fun h => ?_)) | (refine SL.TD.is ?_; first | (refine SL.TD.fin (by rfl) ?_; simp only [List.append_nil, List.cons_append, List.nil_append]) | refine SL.W.dpass ?_ | refine SL.W.dpure ?_ | refine SL.W.dload ?_ | refine SL.W.dloadA ?_ | refine SL.W.dfrz ?_ | (refine SL.W.dthaw ?_; simp only [List.append_nil, List.cons_append, List.nil_append]) | (refine SL.W.dguardP (fun h => ?_) (fun h => ?_) <;> first | contradiction | (exfalso; omega) | (exfalso; revert h; simp; done) | skip) | (refine SL.W.dguardB (fun h => ?_) (fun h => ?_) <;> (fail_if_success (have : h = (rfl : true = true) := rfl))) | refine SL.W.done ?_ | refine SL.W.dtwo ?_ ?_ | refine SL.W.dthree ?_ ?_ ?_))
    all_goals exact SL.TK.retD Try.func33 (SL.Res.one rfl (by rfl)) ⟨rfl, rfl⟩ (EntD.cons (by first | ((repeat (first | exact SL.Pick.head | apply SL.Pick.tail)); done) | fail) (EntD.cons (by first | ((repeat (first | exact SL.Pick.head | apply SL.Pick.tail)); done) | fail) EntD.nil))

theorem flip1_in (nb b vb bb cap cap2 k q : Nat) (fs : Frs) (extra ex : List Value) (f : Fr) (hk : fs[k]? = some (f, (some ⟨bb, 0, none⟩, cap2))) (hq : q / 8 < f.bs.length) (hb : f.bs.length ≤ 1048576) :
    Spec Try.prog 33 (.pointer (some ⟨b, k * 5, none⟩) :: [.pointer (some ⟨vb, 0, none⟩)])
      (blk nb 65 [.slice (some ⟨b, 0, none⟩) fs.length cap, .bool true] :: [blk b 31 (cellsP fs ++ extra), blk bb 5 (f.bs.map byteV ++ ex), blk vb 3 [.int .i64 q]])
      (fun r L => r = .int .i64 0 ∧ L = [blk nb 65 [.slice (some ⟨b, 0, none⟩) fs.length cap, .bool true], blk b 31 (cellsP fs ++ extra), blk bb 5 ((f.bs.set (q / 8) (flipB f.bs[q / 8] (q % 8))).map byteV ++ ex)]) := by
  have hcut := cellsP_cut (extra := extra) hk
  have hn := cut_nth (j := 4) (v := .slice (some ⟨bb, 0, none⟩) f.bs.length cap2) hcut (by rfl)
  have hn2 := nth_bytes (ex := ex) hq
  have hput := put_byte (ex := ex) hq (flipB f.bs[q / 8] (q % 8))
  have hv := Lib.hid (flip_u8 f.bs[q / 8] (q := q))
  refine SL.Spec.of_TK Go.Proofs.Try.func33 rfl rfl SL.call33 rfl ?_
  repeat' (first | refine SL.TD.loadC (by rfl) (by rfl) (by infer_instance) (by rfl) rfl (by rfl) (by rfl) (by rfl) (by first | ((repeat (first | exact SL.Pick.head | apply SL.Pick.tail)); done) | fail) hn (by simp only [SL.setB] <;> rfl) ?_ | refine SL.TD.loadC (by rfl) (by rfl) (by infer_instance) (by rfl) rfl (by rfl) (by rfl) (by rfl) (by first | ((repeat (first | exact SL.Pick.head | apply SL.Pick.tail)); done) | fail) hn2 (by simp only [SL.setB] <;> rfl) ?_ | (refine SL.TO.slot (d := 27) (by rfl) (v' := byteV (flipB f.bs[q / 8] (q % 8))) (congrArg (Value.int IntKind.u8) hv.out) ?_; refine SL.TO.store (by rfl) (by rfl) (by rfl) (by rfl) (by first | ((repeat (first | exact SL.Pick.head | apply SL.Pick.tail)); done) | fail) hput ?_) | (refine SL.TO.is ?_; first | refine SL.TO.nil ?_ | (refine SL.TO.nilD ?_; simp only [SL.setB]) | refine SL.W.pass ?_ | refine SL.W.pass0 ?_ | (refine SL.W.pure ?_; first | refine SL.W.pv ?_ | refine SL.W.pv0 ?_ | refine SL.W.lenMp ?_ | (refine SL.W.guardP (fun h => ?_) (fun h => ?_) <;> first | contradiction | (exfalso; omega) | (exfalso; revert h; simp; done) | skip) | (refine SL.W.guardB (fun h => ?_) (fun h => ?_) <;> (fail_if_success (have : h = (rfl : true = true) := rfl)))) | (refine SL.W.loud ?_; first | refine SL.W.load ?_ | refine SL.W.loadA ?_ | refine SL.W.store ?_ | refine SL.W.storeA ?_ | (refine SL.W.box ?_; intro b) | (refine SL.W.alloc ?_; intro b) | (refine SL.W.buildSlice ?_; intro b) | (refine SL.W.append ?_; intro a cap) | refine SL.W.bytesToStr ?_ | (refine SL.W.makeSlice ?_; intro b) | refine SL.W.lookupOk ?_ | refine SL.W.lookup ?_ | (refine SL.W.makeMap ?_; intro b) | refine SL.W.mapUpdate ?_ | (refine SL.W.mapEntry ?_; intro stamp) | refine SL.W.entryStore ?_ | (refine SL.W.range ?_; intro it) | refine SL.W.delete ?_ | (refine SL.W.guardP (fun h => ?_) (fun h => ?_) <;> first | contradiction | (exfalso; omega) | (exfalso; revert h; simp; done) | skip) | (refine SL.W.guardB (fun h => ?_) (fun h => ?_) <;> (fail_if_success (have : h = (rfl : true = true) := rfl))))) | (refine SL.TK.is ?_; first | refine SL.TK.seq ?_ | refine SL.TK.region ?_ | refine SL.TK.regionD SL.mixed (by simp only [SL.falses] <;> rfl) ?_ | refine SL.TK.block ?_ | refine SL.TK.inBlock ?_ | refine SL.TK.skip ?_ | refine SL.TK.scope ?_ | refine SL.TK.inScope ?_ | refine SL.TK.label ?_ | refine SL.W.exit ?_ | refine SL.W.condT ?_ | refine SL.W.condF ?_ | (refine SL.W.condP (fun h => ?_) (fun h => ?_) <;> first | contradiction | (exfalso; omega) | (exfalso; revert h; simp; done) | skip) | refine SL.W.condB (fun h => ?_) (fun h => ?_)) | (refine SL.TD.is ?_; first | (refine SL.TD.fin (by rfl) ?_; simp only [List.append_nil, List.cons_append, List.nil_append]) | refine SL.W.dpass ?_ | refine SL.W.dpure ?_ | refine SL.W.dload ?_ | refine SL.W.dloadA ?_ | refine SL.W.dfrz ?_ | (refine SL.W.dthaw ?_; simp only [List.append_nil, List.cons_append, List.nil_append]) | (refine SL.W.dguardP (fun h => ?_) (fun h => ?_) <;> first | contradiction | (exfalso; omega) | (exfalso; revert h; simp; done) | skip) | (refine SL.W.dguardB (fun h => ?_) (fun h => ?_) <;> (fail_if_success (have : h = (rfl : true = true) := rfl))) | refine SL.W.done ?_ | refine SL.W.dtwo ?_ ?_ | refine SL.W.dthree ?_ ?_ ?_))
  all_goals exact SL.TK.retD Try.func33 (SL.Res.one rfl (by rfl)) ⟨rfl, rfl⟩ (EntD.cons (by first | ((repeat (first | exact SL.Pick.head | apply SL.Pick.tail)); done) | fail) (EntD.cons (by first | ((repeat (first | exact SL.Pick.head | apply SL.Pick.tail)); done) | fail) (EntD.cons (by first | ((repeat (first | exact SL.Pick.head | apply SL.Pick.tail)); done) | fail) EntD.nil)))

def flipF (f : Fr) (q : Nat) : Fr := { f with bs := f.bs.set (q / 8) (flipB (f.bs.getD (q / 8) 0) (q % 8)) }
def flipC (l : List Fr) (k q : Int) : Int := if 0 ≤ k ∧ k < l.length then (match l[k.toNat]? with
  | some f => if 0 ≤ q ∧ q / 8 < f.bs.length then 0 else 1
  | none => 6) else 6
def flipL (l : List Fr) (k q : Int) : List Fr := if 0 ≤ k ∧ k < l.length then (match l[k.toNat]? with
  | some f => if 0 ≤ q ∧ q / 8 < f.bs.length then l.set k.toNat (flipF f q.toNat) else l
  | none => l) else l

theorem flip_spec (nb : Nat) (k q : Int) (l : List Fr) (hw : ∀ f ∈ l, f.bs.length ≤ 1048576) (hr : -9223372036854775808 ≤ q ∧ q ≤ 9223372036854775807) : Spec Try.prog 16 [.pointer (some ⟨nb, 0, none⟩), .int .i64 k, .int .i64 q] [NetAt nb l]
    (fun r L => r = .int .i64 (flipC l k q) ∧ L = [NetAt nb (flipL l k q)]) := by
  by_cases hk : 0 ≤ k ∧ k < l.length
  · obtain ⟨j, rfl⟩ := Int.eq_ofNat_of_zero_le hk.1
    have hj : j < l.length := by omega
    have hlj : l[j]? = some l[j] := List.getElem?_eq_getElem hj
    have hfb : l[j].bs.length ≤ 1048576 := hw _ (List.getElem_mem hj)
    clear hw
    unfold flipC flipL
    rw [if_pos hk, if_pos hk, Int.toNat_natCast, hlj]
    generalize l[j] = f at hlj hfb ⊢
    clear hk
    simp only
    by_cases hq : 0 ≤ q ∧ q / 8 < f.bs.length
    · obtain ⟨q, rfl⟩ := Int.eq_ofNat_of_zero_le hq.1
      rw [if_pos hq, if_pos hq, Int.toNat_natCast]
      have hq8 : q / 8 < f.bs.length := by omega
      clear hq
      refine SL.Spec.of_TK Go.Proofs.Try.func16 rfl rfl SL.call16 rfl ?_
      refine SL.TK.openNet (by first | ((repeat (first | exact SL.Pick.head | apply SL.Pick.tail)); done) | fail) (fun a1 cap1 => ?_)
      refine SL.TK.openFr (by first | ((repeat (first | exact SL.Pick.head | apply SL.Pick.tail)); done) | fail) (fun fs hfs => ?_)
      refine SL.TK.ownPos (e := 31) (by first | ((repeat (first | exact SL.Pick.head | apply SL.Pick.tail)); done) | fail) (by omega) (fun b0 extra ea e1 e2 e3 => ?_)
      subst ea
      have hlen : fs.length = l.length := by rw [← hfs, List.length_map]
      obtain ⟨p, hp⟩ : ∃ p, fs[j]? = some p := ⟨fs[j]'(by omega), List.getElem?_eq_getElem (by omega)⟩
      obtain ⟨f', s⟩ := p
      have hf : f' = f := by
        rw [← hfs, List.getElem?_map, hp] at hlj
        simpa using hlj
      subst hf
      have hHl := Lib.hid hlen
      refine SL.TK.pickFr (by first | ((repeat (first | exact SL.Pick.head | apply SL.Pick.tail)); done) | fail) hp ?_
      obtain ⟨a2, cap2⟩ := s
      refine SL.TK.ownPos (e := 5) (a := a2) (by first | ((repeat (first | exact SL.Pick.head | apply SL.Pick.tail)); done) | fail) (by omega) (fun bb ex eb g1 g2 g3 => ?_)
      subst eb
      have ht1 := Lib.hid fun (vb : Nat) => at_in nb b0 fs.length cap1 j (by omega) (flip1_in nb b0 vb bb cap1 cap2 j q fs extra ex f' hp hq8 hfb)
      have hE := Lib.hid (And.intro e2 g2)
      rw [← hlen]
      clear e2 e1 g1 g2
      repeat' (first | (refine SL.W.call (ht1.out _) ?_; rintro _ _ ⟨rfl, rfl⟩; try simp only [List.cons_append, List.nil_append]) | (refine SL.TO.is ?_; first | refine SL.TO.nil ?_ | (refine SL.TO.nilD ?_; simp only [SL.setB]) | refine SL.W.pass ?_ | refine SL.W.pass0 ?_ | (refine SL.W.pure ?_; first | refine SL.W.pv ?_ | refine SL.W.pv0 ?_ | refine SL.W.lenMp ?_ | (refine SL.W.guardP (fun h => ?_) (fun h => ?_) <;> first | contradiction | (exfalso; omega) | (exfalso; revert h; simp; done) | skip) | (refine SL.W.guardB (fun h => ?_) (fun h => ?_) <;> (fail_if_success (have : h = (rfl : true = true) := rfl)))) | (refine SL.W.loud ?_; first | refine SL.W.load ?_ | refine SL.W.loadA ?_ | refine SL.W.store ?_ | refine SL.W.storeA ?_ | (refine SL.W.box ?_; intro b) | (refine SL.W.alloc ?_; intro b) | (refine SL.W.buildSlice ?_; intro b) | (refine SL.W.append ?_; intro a cap) | refine SL.W.bytesToStr ?_ | (refine SL.W.makeSlice ?_; intro b) | refine SL.W.lookupOk ?_ | refine SL.W.lookup ?_ | (refine SL.W.makeMap ?_; intro b) | refine SL.W.mapUpdate ?_ | (refine SL.W.mapEntry ?_; intro stamp) | refine SL.W.entryStore ?_ | (refine SL.W.range ?_; intro it) | refine SL.W.delete ?_ | (refine SL.W.guardP (fun h => ?_) (fun h => ?_) <;> first | contradiction | (exfalso; omega) | (exfalso; revert h; simp; done) | skip) | (refine SL.W.guardB (fun h => ?_) (fun h => ?_) <;> (fail_if_success (have : h = (rfl : true = true) := rfl))))) | (refine SL.TK.is ?_; first | refine SL.TK.seq ?_ | refine SL.TK.region ?_ | refine SL.TK.regionD SL.mixed (by simp only [SL.falses] <;> rfl) ?_ | refine SL.TK.block ?_ | refine SL.TK.inBlock ?_ | refine SL.TK.skip ?_ | refine SL.TK.scope ?_ | refine SL.TK.inScope ?_ | refine SL.TK.label ?_ | refine SL.W.exit ?_ | refine SL.W.condT ?_ | refine SL.W.condF ?_ | (refine SL.W.condP (fun h => ?_) (fun h => ?_) <;> first | contradiction | (exfalso; omega) | (exfalso; revert h; simp; done) | skip) | refine SL.W.condB (fun h => ?_) (fun h => ?_)) | (refine SL.TD.is ?_; first | (refine SL.TD.fin (by rfl) ?_; simp only [List.append_nil, List.cons_append, List.nil_append]) | refine SL.W.dpass ?_ | refine SL.W.dpure ?_ | refine SL.W.dload ?_ | refine SL.W.dloadA ?_ | refine SL.W.dfrz ?_ | (refine SL.W.dthaw ?_; simp only [List.append_nil, List.cons_append, List.nil_append]) | (refine SL.W.dguardP (fun h => ?_) (fun h => ?_) <;> first | contradiction | (exfalso; omega) | (exfalso; revert h; simp; done) | skip) | (refine SL.W.dguardB (fun h => ?_) (fun h => ?_) <;> (fail_if_success (have : h = (rfl : true = true) := rfl))) | refine SL.W.done ?_ | refine SL.W.dtwo ?_ ?_ | refine SL.W.dthree ?_ ?_ ?_))
      refine SL.TK.retD Try.func16 (SL.Res.one rfl (by rfl)) (L' := [NetAt nb (l.set j (flipF f' q))]) ⟨rfl, rfl⟩ ?_
      have hx : flipF f' q = { f' with bs := f'.bs.set (q / 8) (flipB f'.bs[q / 8] (q % 8)) } := by
        unfold flipF
        rw [List.getD_eq_getElem?_getD, List.getElem?_eq_getElem hq8]
        rfl
      rw [hx]
      exact EntD.frm (by first | ((repeat (first | exact SL.Frm.nil | exact SL.Frm.refl | (apply SL.Frm.cons; repeat (first | exact SL.Pick.head | apply SL.Pick.tail)))); done) | fail) (net_flip (nb := nb) (b := b0) (m := fs.length) (cap := cap1) (extra := extra) (ex := ex) (bs' := f'.bs.set (q / 8) (flipB f'.bs[q / 8] (q % 8))) fs hfs hHl.out hp (by omega) hE.out.1 (by simp) g3 hE.out.2) EntD.nil
    · rw [if_neg hq, if_neg hq]
      have hq' : q < 0 ∨ (f.bs.length : Int) ≤ q / 8 := by omega
      clear hq
      refine SL.Spec.of_TK Go.Proofs.Try.func16 rfl rfl SL.call16 rfl ?_
      refine SL.TK.openNet (by first | ((repeat (first | exact SL.Pick.head | apply SL.Pick.tail)); done) | fail) (fun a1 cap1 => ?_)
      refine SL.TK.openFr (by first | ((repeat (first | exact SL.Pick.head | apply SL.Pick.tail)); done) | fail) (fun fs hfs => ?_)
      refine SL.TK.ownPos (e := 31) (by first | ((repeat (first | exact SL.Pick.head | apply SL.Pick.tail)); done) | fail) (by omega) (fun b0 extra ea e1 e2 e3 => ?_)
      subst ea
      have hlen : fs.length = l.length := by rw [← hfs, List.length_map]
      obtain ⟨p, hp⟩ : ∃ p, fs[j]? = some p := ⟨fs[j]'(by omega), List.getElem?_eq_getElem (by omega)⟩
      obtain ⟨f', s⟩ := p
      have hf : f' = f := by
        rw [← hfs, List.getElem?_map, hp] at hlj
        simpa using hlj
      subst hf
      have hHl := Lib.hid hlen
      have ht1 := Lib.hid fun (vb : Nat) => at_in nb b0 fs.length cap1 j (by omega) (flip1_out nb b0 vb cap1 j q fs extra f' s hp hq' hfb hr)
      have hE := Lib.hid (And.intro e1 e2)
      rw [← hlen]
      clear e2 e1 hq'
      repeat' (first | (refine SL.W.call (ht1.out _) ?_; rintro _ _ ⟨rfl, rfl⟩; try simp only [List.cons_append, List.nil_append]) | (refine SL.TO.is ?_; first | refine SL.TO.nil ?_ | (refine SL.TO.nilD ?_; simp only [SL.setB]) | refine SL.W.pass ?_ | refine SL.W.pass0 ?_ | (refine SL.W.pure ?_; first | refine SL.W.pv ?_ | refine SL.W.pv0 ?_ | refine SL.W.lenMp ?_ | (refine SL.W.guardP (fun h => ?_) (fun h => ?_) <;> first | contradiction | (exfalso; omega) | (exfalso; revert h; simp; done) | skip) | (refine SL.W.guardB (fun h => ?_) (fun h => ?_) <;> (fail_if_success (have : h = (rfl : true = true) := rfl)))) | (refine SL.W.loud ?_; first | refine SL.W.load ?_ | refine SL.W.loadA ?_ | refine SL.W.store ?_ | refine SL.W.storeA ?_ | (refine SL.W.box ?_; intro b) | (refine SL.W.alloc ?_; intro b) | (refine SL.W.buildSlice ?_; intro b) | (refine SL.W.append ?_; intro a cap) | refine SL.W.bytesToStr ?_ | (refine SL.W.makeSlice ?_; intro b) | refine SL.W.lookupOk ?_ | refine SL.W.lookup ?_ | (refine SL.W.makeMap ?_; intro b) | refine SL.W.mapUpdate ?_ | (refine SL.W.mapEntry ?_; intro stamp) | refine SL.W.entryStore ?_ | (refine SL.W.range ?_; intro it) | refine SL.W.delete ?_ | (refine SL.W.guardP (fun h => ?_) (fun h => ?_) <;> first | contradiction | (exfalso; omega) | (exfalso; revert h; simp; done) | skip) | (refine SL.W.guardB (fun h => ?_) (fun h => ?_) <;> (fail_if_success (have : h = (rfl : true = true) := rfl))))) | (refine SL.TK.is ?_; first | refine SL.TK.seq ?_ | refine SL.TK.region ?_ | refine SL.TK.regionD SL.mixed (by simp only [SL.falses] <;> rfl) ?_ | refine SL.TK.block ?_ | refine SL.TK.inBlock ?_ | refine SL.TK.skip ?_ | refine SL.TK.scope ?_ | refine SL.TK.inScope ?_ | refine SL.TK.label ?_ | refine SL.W.exit ?_ | refine SL.W.condT ?_ | refine SL.W.condF ?_ | (refine SL.W.condP (fun h => ?_) (fun h => ?_) <;> first | contradiction | (exfalso; omega) | (exfalso; revert h; simp; done) | skip) | refine SL.W.condB (fun h => ?_) (fun h => ?_)) | (refine SL.TD.is ?_; first | (refine SL.TD.fin (by rfl) ?_; simp only [List.append_nil, List.cons_append, List.nil_append]) | refine SL.W.dpass ?_ | refine SL.W.dpure ?_ | refine SL.W.dload ?_ | refine SL.W.dloadA ?_ | refine SL.W.dfrz ?_ | (refine SL.W.dthaw ?_; simp only [List.append_nil, List.cons_append, List.nil_append]) | (refine SL.W.dguardP (fun h => ?_) (fun h => ?_) <;> first | contradiction | (exfalso; omega) | (exfalso; revert h; simp; done) | skip) | (refine SL.W.dguardB (fun h => ?_) (fun h => ?_) <;> (fail_if_success (have : h = (rfl : true = true) := rfl))) | refine SL.W.done ?_ | refine SL.W.dtwo ?_ ?_ | refine SL.W.dthree ?_ ?_ ?_))
      exact SL.TK.retD Try.func16 (SL.Res.one rfl (by rfl)) (L' := [NetAt nb l]) ⟨rfl, rfl⟩ (EntD.frm (by first | ((repeat (first | exact SL.Frm.nil | exact SL.Frm.refl | (apply SL.Frm.cons; repeat (first | exact SL.Pick.head | apply SL.Pick.tail)))); done) | fail) (net_blk fs extra hfs hHl.out (by omega) hE.out.2) EntD.nil)
  · unfold flipC flipL
    rw [if_neg hk, if_neg hk]
    refine SL.Spec.of_TK Go.Proofs.Try.func16 rfl rfl SL.call16 rfl ?_
    refine SL.TK.openNet (by first | ((repeat (first | exact SL.Pick.head | apply SL.Pick.tail)); done) | fail) (fun a1 cap1 => ?_)
    have ht1 := Lib.hid (at_out nb l.length cap1 k a1 · hk)
    clear hk
    repeat' (first | (refine SL.W.call (ht1.out _) ?_; rintro _ _ ⟨rfl, rfl⟩; try simp only [List.cons_append, List.nil_append]) | (refine SL.TO.is ?_; first | refine SL.TO.nil ?_ | (refine SL.TO.nilD ?_; simp only [SL.setB]) | refine SL.W.pass ?_ | refine SL.W.pass0 ?_ | (refine SL.W.pure ?_; first | refine SL.W.pv ?_ | refine SL.W.pv0 ?_ | refine SL.W.lenMp ?_ | (refine SL.W.guardP (fun h => ?_) (fun h => ?_) <;> first | contradiction | (exfalso; omega) | (exfalso; revert h; simp; done) | skip) | (refine SL.W.guardB (fun h => ?_) (fun h => ?_) <;> (fail_if_success (have : h = (rfl : true = true) := rfl)))) | (refine SL.W.loud ?_; first | refine SL.W.load ?_ | refine SL.W.loadA ?_ | refine SL.W.store ?_ | refine SL.W.storeA ?_ | (refine SL.W.box ?_; intro b) | (refine SL.W.alloc ?_; intro b) | (refine SL.W.buildSlice ?_; intro b) | (refine SL.W.append ?_; intro a cap) | refine SL.W.bytesToStr ?_ | (refine SL.W.makeSlice ?_; intro b) | refine SL.W.lookupOk ?_ | refine SL.W.lookup ?_ | (refine SL.W.makeMap ?_; intro b) | refine SL.W.mapUpdate ?_ | (refine SL.W.mapEntry ?_; intro stamp) | refine SL.W.entryStore ?_ | (refine SL.W.range ?_; intro it) | refine SL.W.delete ?_ | (refine SL.W.guardP (fun h => ?_) (fun h => ?_) <;> first | contradiction | (exfalso; omega) | (exfalso; revert h; simp; done) | skip) | (refine SL.W.guardB (fun h => ?_) (fun h => ?_) <;> (fail_if_success (have : h = (rfl : true = true) := rfl))))) | (refine SL.TK.is ?_; first | refine SL.TK.seq ?_ | refine SL.TK.region ?_ | refine SL.TK.regionD SL.mixed (by simp only [SL.falses] <;> rfl) ?_ | refine SL.TK.block ?_ | refine SL.TK.inBlock ?_ | refine SL.TK.skip ?_ | refine SL.TK.scope ?_ | refine SL.TK.inScope ?_ | refine SL.TK.label ?_ | refine SL.W.exit ?_ | refine SL.W.condT ?_ | refine SL.W.condF ?_ | (refine SL.W.condP (fun h => ?_) (fun h => ?_) <;> first | contradiction | (exfalso; omega) | (exfalso; revert h; simp; done) | skip) | refine SL.W.condB (fun h => ?_) (fun h => ?_)) | (refine SL.TD.is ?_; first | (refine SL.TD.fin (by rfl) ?_; simp only [List.append_nil, List.cons_append, List.nil_append]) | refine SL.W.dpass ?_ | refine SL.W.dpure ?_ | refine SL.W.dload ?_ | refine SL.W.dloadA ?_ | refine SL.W.dfrz ?_ | (refine SL.W.dthaw ?_; simp only [List.append_nil, List.cons_append, List.nil_append]) | (refine SL.W.dguardP (fun h => ?_) (fun h => ?_) <;> first | contradiction | (exfalso; omega) | (exfalso; revert h; simp; done) | skip) | (refine SL.W.dguardB (fun h => ?_) (fun h => ?_) <;> (fail_if_success (have : h = (rfl : true = true) := rfl))) | refine SL.W.done ?_ | refine SL.W.dtwo ?_ ?_ | refine SL.W.dthree ?_ ?_ ?_))
    exact SL.TK.retD Try.func16 (SL.Res.one rfl (by rfl)) ⟨rfl, rfl⟩ (EntD.frm (by first | ((repeat (first | exact SL.Frm.nil | exact SL.Frm.refl | (apply SL.Frm.cons; repeat (first | exact SL.Pick.head | apply SL.Pick.tail)))); done) | fail) (net_shut rfl) EntD.nil)
end SL
