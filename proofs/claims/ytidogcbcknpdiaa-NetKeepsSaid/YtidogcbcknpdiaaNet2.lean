/-
  Chapter 29: contracts of Equal and Put.
-/
import Derived.Test.YtidogcbcknpdiaaNet1
set_option linter.unusedVariables false
set_option linter.unusedSimpArgs false
set_option maxRecDepth 10000
namespace SL
open Go Go.Proofs
attribute [local irreducible] SL.TK SL.TO SL.TD SL.PV SL.Pick SL.Frm SL.Ent SL.Sub SL.EvAll SL.seps SL.sep SL.Cut SL.PutAt SL.blk SL.EvP SL.Fill SL.Src SL.EntD SL.own SL.ex SL.fact SL.orig

theorem equal_spec (s1 s2 : Option Addr × Nat) (b1 b2 : List UInt8) : Spec Try.prog 12 [.slice s1.1 b1.length s1.2, .slice s2.1 b2.length s2.2] [byt s1 b1, byt s2 b2]
    (fun r L => r = .bool (decide (b1 = b2)) ∧ L = [byt s1 b1, byt s2 b2]) := by
  refine SL.Spec.of_TK Go.Proofs.Try.func12 rfl rfl SL.call12 rfl ?_
  repeat' (first | (refine SL.TO.is ?_; first | refine SL.TO.nil ?_ | (refine SL.TO.nilD ?_; simp only [SL.setB]) | refine SL.W.pass ?_ | refine SL.W.pass0 ?_ | (refine SL.W.pure ?_; first | refine SL.W.pv ?_ | refine SL.W.pv0 ?_ | refine SL.W.lenMp ?_ | (refine SL.W.guardP (fun h => ?_) (fun h => ?_) <;> first | contradiction | (exfalso; omega) | (exfalso; revert h; simp; done) | skip) | (refine SL.W.guardB (fun h => ?_) (fun h => ?_) <;> (fail_if_success (have : h = (rfl : true = true) := rfl)))) | (refine SL.W.loud ?_; first | refine SL.W.load ?_ | refine SL.W.loadA ?_ | refine SL.W.store ?_ | refine SL.W.storeA ?_ | (refine SL.W.box ?_; intro b) | (refine SL.W.alloc ?_; intro b) | (refine SL.W.buildSlice ?_; intro b) | (refine SL.W.append ?_; intro a cap) | refine SL.W.bytesToStr ?_ | (refine SL.W.makeSlice ?_; intro b) | refine SL.W.lookupOk ?_ | refine SL.W.lookup ?_ | (refine SL.W.makeMap ?_; intro b) | refine SL.W.mapUpdate ?_ | (refine SL.W.mapEntry ?_; intro stamp) | refine SL.W.entryStore ?_ | (refine SL.W.range ?_; intro it) | refine SL.W.delete ?_ | (refine SL.W.guardP (fun h => ?_) (fun h => ?_) <;> first | contradiction | (exfalso; omega) | (exfalso; revert h; simp; done) | skip) | (refine SL.W.guardB (fun h => ?_) (fun h => ?_) <;> (fail_if_success (have : h = (rfl : true = true) := rfl))))) | (refine SL.TK.is ?_; first | refine SL.TK.seq ?_ | refine SL.TK.region ?_ | refine SL.TK.regionD SL.mixed (by simp only [SL.falses] <;> rfl) ?_ | refine SL.TK.block ?_ | refine SL.TK.inBlock ?_ | refine SL.TK.skip ?_ | refine SL.TK.scope ?_ | refine SL.TK.inScope ?_ | refine SL.TK.label ?_ | refine SL.W.exit ?_ | refine SL.W.condT ?_ | refine SL.W.condF ?_ | (refine SL.W.condP (fun h => ?_) (fun h => ?_) <;> first | contradiction | (exfalso; omega) | (exfalso; revert h; simp; done) | skip) | refine SL.W.condB (fun h => ?_) (fun h => ?_)) | (refine SL.TD.is ?_; first | (refine SL.TD.fin (by rfl) ?_; simp only [List.append_nil, List.cons_append, List.nil_append]) | refine SL.W.dpass ?_ | refine SL.W.dpure ?_ | refine SL.W.dload ?_ | refine SL.W.dloadA ?_ | refine SL.W.dfrz ?_ | (refine SL.W.dthaw ?_; simp only [List.append_nil, List.cons_append, List.nil_append]) | (refine SL.W.dguardP (fun h => ?_) (fun h => ?_) <;> first | contradiction | (exfalso; omega) | (exfalso; revert h; simp; done) | skip) | (refine SL.W.dguardB (fun h => ?_) (fun h => ?_) <;> (fail_if_success (have : h = (rfl : true = true) := rfl))) | refine SL.W.done ?_ | refine SL.W.dtwo ?_ ?_ | refine SL.W.dthree ?_ ?_ ?_))
  refine SL.TK.ret Go.Proofs.Try.func12 (SL.Res.one rfl (by rfl)) (⟨by simp only [strOf_toList], rfl⟩) (by first | ((repeat (first | exact SL.Ent.refl | refine SL.Ent.cons (by first | ((repeat (first | exact SL.Pick.head | apply SL.Pick.tail)); done) | fail) ?_)); done) | fail)

theorem equal_gen {X : HProp} (s1 : Option Addr × Nat) (a2 : Option Addr) (cap2 : Nat) (b1 b2 : List UInt8) (hX : Rd X a2 cap2 b2) : Spec Try.prog 12 [.slice s1.1 b1.length s1.2, .slice a2 b2.length cap2] [byt s1 b1, X]
    (fun r L => r = .bool (decide (b1 = b2)) ∧ L = [byt s1 b1, X]) := by
  refine SL.Spec.of_TK Go.Proofs.Try.func12 rfl rfl SL.call12 rfl ?_
  repeat' (first | (refine SL.TO.is ?_; first | refine SL.TO.nil ?_ | (refine SL.TO.nilD ?_; simp only [SL.setB]) | refine SL.W.pass ?_ | refine SL.W.pass0 ?_ | (refine SL.W.pure ?_; first | refine SL.W.pv ?_ | refine SL.W.pv0 ?_ | refine SL.W.lenMp ?_ | (refine SL.W.guardP (fun h => ?_) (fun h => ?_) <;> first | contradiction | (exfalso; omega) | (exfalso; revert h; simp; done) | skip) | (refine SL.W.guardB (fun h => ?_) (fun h => ?_) <;> (fail_if_success (have : h = (rfl : true = true) := rfl)))) | (refine SL.W.loud ?_; first | refine SL.W.load ?_ | refine SL.W.loadA ?_ | refine SL.W.store ?_ | refine SL.W.storeA ?_ | (refine SL.W.box ?_; intro b) | (refine SL.W.alloc ?_; intro b) | (refine SL.W.buildSlice ?_; intro b) | (refine SL.W.append ?_; intro a cap) | refine SL.W.bytesToStr ?_ | (refine SL.W.makeSlice ?_; intro b) | refine SL.W.lookupOk ?_ | refine SL.W.lookup ?_ | (refine SL.W.makeMap ?_; intro b) | refine SL.W.mapUpdate ?_ | (refine SL.W.mapEntry ?_; intro stamp) | refine SL.W.entryStore ?_ | (refine SL.W.range ?_; intro it) | refine SL.W.delete ?_ | (refine SL.W.guardP (fun h => ?_) (fun h => ?_) <;> first | contradiction | (exfalso; omega) | (exfalso; revert h; simp; done) | skip) | (refine SL.W.guardB (fun h => ?_) (fun h => ?_) <;> (fail_if_success (have : h = (rfl : true = true) := rfl))))) | (refine SL.TK.is ?_; first | refine SL.TK.seq ?_ | refine SL.TK.region ?_ | refine SL.TK.regionD SL.mixed (by simp only [SL.falses] <;> rfl) ?_ | refine SL.TK.block ?_ | refine SL.TK.inBlock ?_ | refine SL.TK.skip ?_ | refine SL.TK.scope ?_ | refine SL.TK.inScope ?_ | refine SL.TK.label ?_ | refine SL.W.exit ?_ | refine SL.W.condT ?_ | refine SL.W.condF ?_ | (refine SL.W.condP (fun h => ?_) (fun h => ?_) <;> first | contradiction | (exfalso; omega) | (exfalso; revert h; simp; done) | skip) | refine SL.W.condB (fun h => ?_) (fun h => ?_)) | (refine SL.TD.is ?_; first | (refine SL.TD.fin (by rfl) ?_; simp only [List.append_nil, List.cons_append, List.nil_append]) | refine SL.W.dpass ?_ | refine SL.W.dpure ?_ | refine SL.W.dload ?_ | refine SL.W.dloadA ?_ | refine SL.W.dfrz ?_ | (refine SL.W.dthaw ?_; simp only [List.append_nil, List.cons_append, List.nil_append]) | (refine SL.W.dguardP (fun h => ?_) (fun h => ?_) <;> first | contradiction | (exfalso; omega) | (exfalso; revert h; simp; done) | skip) | (refine SL.W.dguardB (fun h => ?_) (fun h => ?_) <;> (fail_if_success (have : h = (rfl : true = true) := rfl))) | refine SL.W.done ?_ | refine SL.W.dtwo ?_ ?_ | refine SL.W.dthree ?_ ?_ ?_))
  refine SL.TK.ret Go.Proofs.Try.func12 (SL.Res.one rfl (by rfl)) (⟨by simp only [strOf_toList], rfl⟩) (by first | ((repeat (first | exact SL.Ent.refl | refine SL.Ent.cons (by first | ((repeat (first | exact SL.Pick.head | apply SL.Pick.tail)); done) | fail) ?_)); done) | fail)

def putN (m : Nat) (f : Fr) : Int :=
  if mayF f.c1 f.n1 && mayF f.c2 f.n2 then (if 1048576 < f.bs.length then 3 else if 4096 ≤ m then 7 else 0) else 1
def putL (l : List Fr) (f : Fr) : List Fr := if putN l.length f = 0 then l ++ [f] else l

theorem put_raw (nb m cap1 : Nat) (a1 : Option Addr) (cs : List Value) (f : Fr) (s : Option Addr × Nat) : Spec Try.prog 9 [.pointer (some ⟨nb, 0, none⟩), .agg (frV f s).toArray]
    [blk nb 65 [.slice a1 m cap1, .bool true], own 31 5 a1 m cap1 cs, byt s f.bs]
    (fun r L => r = .int .i64 (putN m f) ∧ ((putN m f ≠ 0 ∧ L = [blk nb 65 [.slice a1 m cap1, .bool true], own 31 5 a1 m cap1 cs, byt s f.bs]) ∨
      (putN m f = 0 ∧ ∃ a cap s', L = [blk nb 65 [.slice a (m + 1) cap, .bool true], own 31 5 a (m + 1) cap (cs ++ frV f s'), byt s f.bs, byt s' f.bs]))) := by
  obtain ⟨c1, n1, c2, n2, bs⟩ := f
  obtain ⟨a0, cap0⟩ := s
  simp only [frV] at *
  refine SL.Spec.of_TK Go.Proofs.Try.func9 rfl rfl SL.call9 rfl ?_
  repeat' (first | (refine SL.W.call (none_spec _ _ _) ?_; rintro _ _ ⟨rfl, rfl⟩; try simp only [List.cons_append, List.nil_append]) | (refine SL.W.call (may_spec _ _) ?_; rintro _ _ ⟨rfl, rfl⟩; try simp only [List.cons_append, List.nil_append]) | (refine SL.W.call (own_spec ⟨c1, n1, c2, n2, bs⟩ (a0, cap0) (by simp only; omega)) ?_; rintro _ _ ⟨⟨a', cap'⟩, rfl, rfl⟩; try simp only [List.cons_append, List.nil_append]) | (refine SL.TO.is ?_; first | refine SL.TO.nil ?_ | (refine SL.TO.nilD ?_; simp only [SL.setB]) | refine SL.W.pass ?_ | refine SL.W.pass0 ?_ | (refine SL.W.pure ?_; first | refine SL.W.pv ?_ | refine SL.W.pv0 ?_ | refine SL.W.lenMp ?_ | (refine SL.W.guardP (fun h => ?_) (fun h => ?_) <;> first | contradiction | (exfalso; omega) | (exfalso; revert h; simp; done) | skip) | (refine SL.W.guardB (fun h => ?_) (fun h => ?_) <;> (fail_if_success (have : h = (rfl : true = true) := rfl)))) | (refine SL.W.loud ?_; first | refine SL.W.load ?_ | refine SL.W.loadA ?_ | refine SL.W.store ?_ | refine SL.W.storeA ?_ | (refine SL.W.box ?_; intro b) | (refine SL.W.alloc ?_; intro b) | (refine SL.W.buildSlice ?_; intro b) | (refine SL.W.append ?_; intro a cap) | refine SL.W.bytesToStr ?_ | (refine SL.W.makeSlice ?_; intro b) | refine SL.W.lookupOk ?_ | refine SL.W.lookup ?_ | (refine SL.W.makeMap ?_; intro b) | refine SL.W.mapUpdate ?_ | (refine SL.W.mapEntry ?_; intro stamp) | refine SL.W.entryStore ?_ | (refine SL.W.range ?_; intro it) | refine SL.W.delete ?_ | (refine SL.W.guardP (fun h => ?_) (fun h => ?_) <;> first | contradiction | (exfalso; omega) | (exfalso; revert h; simp; done) | skip) | (refine SL.W.guardB (fun h => ?_) (fun h => ?_) <;> (fail_if_success (have : h = (rfl : true = true) := rfl))))) | (refine SL.TK.is ?_; first | refine SL.TK.seq ?_ | refine SL.TK.region ?_ | refine SL.TK.regionD SL.mixed (by simp only [SL.falses] <;> rfl) ?_ | refine SL.TK.block ?_ | refine SL.TK.inBlock ?_ | refine SL.TK.skip ?_ | refine SL.TK.scope ?_ | refine SL.TK.inScope ?_ | refine SL.TK.label ?_ | refine SL.W.exit ?_ | refine SL.W.condT ?_ | refine SL.W.condF ?_ | (refine SL.W.condP (fun h => ?_) (fun h => ?_) <;> first | contradiction | (exfalso; omega) | (exfalso; revert h; simp; done) | skip) | refine SL.W.condB (fun h => ?_) (fun h => ?_)) | (refine SL.TD.is ?_; first | (refine SL.TD.fin (by rfl) ?_; simp only [List.append_nil, List.cons_append, List.nil_append]) | refine SL.W.dpass ?_ | refine SL.W.dpure ?_ | refine SL.W.dload ?_ | refine SL.W.dloadA ?_ | refine SL.W.dfrz ?_ | (refine SL.W.dthaw ?_; simp only [List.append_nil, List.cons_append, List.nil_append]) | (refine SL.W.dguardP (fun h => ?_) (fun h => ?_) <;> first | contradiction | (exfalso; omega) | (exfalso; revert h; simp; done) | skip) | (refine SL.W.dguardB (fun h => ?_) (fun h => ?_) <;> (fail_if_success (have : h = (rfl : true = true) := rfl))) | refine SL.W.done ?_ | refine SL.W.dtwo ?_ ?_ | refine SL.W.dthree ?_ ?_ ?_))
  ·
    have e : putN m ⟨c1, n1, c2, n2, bs⟩ = 1 := by
      simp only [Bool.not_eq_true', Bool.not_eq_false'] at *
      simp [putN, *] <;> omega
    exact SL.TK.retD Try.func9 (SL.Res.one rfl (by rfl)) ⟨by rw [e], .inl ⟨by rw [e]; decide, rfl⟩⟩ (EntD.cons (by first | ((repeat (first | exact SL.Pick.head | apply SL.Pick.tail)); done) | fail) (EntD.cons (by first | ((repeat (first | exact SL.Pick.head | apply SL.Pick.tail)); done) | fail) (EntD.cons (by first | ((repeat (first | exact SL.Pick.head | apply SL.Pick.tail)); done) | fail) EntD.nil)))
  ·
    have e : putN m ⟨c1, n1, c2, n2, bs⟩ = 1 := by
      simp only [Bool.not_eq_true', Bool.not_eq_false'] at *
      simp [putN, *] <;> omega
    exact SL.TK.retD Try.func9 (SL.Res.one rfl (by rfl)) ⟨by rw [e], .inl ⟨by rw [e]; decide, rfl⟩⟩ (EntD.cons (by first | ((repeat (first | exact SL.Pick.head | apply SL.Pick.tail)); done) | fail) (EntD.cons (by first | ((repeat (first | exact SL.Pick.head | apply SL.Pick.tail)); done) | fail) (EntD.cons (by first | ((repeat (first | exact SL.Pick.head | apply SL.Pick.tail)); done) | fail) EntD.nil)))
  ·
    have e : putN m ⟨c1, n1, c2, n2, bs⟩ = 3 := by
      simp only [Bool.not_eq_true', Bool.not_eq_false'] at *
      simp [putN, *] <;> omega
    exact SL.TK.retD Try.func9 (SL.Res.one rfl (by rfl)) ⟨by rw [e], .inl ⟨by rw [e]; decide, rfl⟩⟩ (EntD.cons (by first | ((repeat (first | exact SL.Pick.head | apply SL.Pick.tail)); done) | fail) (EntD.cons (by first | ((repeat (first | exact SL.Pick.head | apply SL.Pick.tail)); done) | fail) (EntD.cons (by first | ((repeat (first | exact SL.Pick.head | apply SL.Pick.tail)); done) | fail) EntD.nil)))
  ·
    have e : putN m ⟨c1, n1, c2, n2, bs⟩ = 7 := by
      simp only [Bool.not_eq_true', Bool.not_eq_false'] at *
      simp [putN, *] <;> omega
    exact SL.TK.retD Try.func9 (SL.Res.one rfl (by rfl)) ⟨by rw [e], .inl ⟨by rw [e]; decide, rfl⟩⟩ (EntD.cons (by first | ((repeat (first | exact SL.Pick.head | apply SL.Pick.tail)); done) | fail) (EntD.cons (by first | ((repeat (first | exact SL.Pick.head | apply SL.Pick.tail)); done) | fail) (EntD.cons (by first | ((repeat (first | exact SL.Pick.head | apply SL.Pick.tail)); done) | fail) EntD.nil)))
  all_goals
    have e : putN m ⟨c1, n1, c2, n2, bs⟩ = 0 := by
      simp only [Bool.not_eq_true', Bool.not_eq_false'] at *
      simp [putN, *] <;> omega
    exact SL.TK.retD Try.func9 (SL.Res.one rfl (by rfl)) ⟨by rw [e], .inr ⟨e, _, _, (a', cap'), rfl⟩⟩ (EntD.cons (by first | ((repeat (first | exact SL.Pick.head | apply SL.Pick.tail)); done) | fail) (EntD.cons (by first | ((repeat (first | exact SL.Pick.head | apply SL.Pick.tail)); done) | fail) (EntD.cons (by first | ((repeat (first | exact SL.Pick.head | apply SL.Pick.tail)); done) | fail) (EntD.cons (by first | ((repeat (first | exact SL.Pick.head | apply SL.Pick.tail)); done) | fail) EntD.nil))))

theorem put_spec (nb : Nat) (l : List Fr) (f : Fr) (s : Option Addr × Nat) : Spec Try.prog 9 [.pointer (some ⟨nb, 0, none⟩), .agg (frV f s).toArray] [NetAt nb l, byt s f.bs]
    (fun r L => r = .int .i64 (putN l.length f) ∧ L = [NetAt nb (putL l f), byt s f.bs]) := by
  refine SL.Spec.openP SL.call9 net_open (fun x hx => ?_)
  obtain ⟨⟨a, cap⟩, fs⟩ := x
  refine SL.Spec.postD (SL.Spec.framed (put_raw nb l.length cap a (cellsP fs) f s) [seps (framesP fs)] (by first | ((repeat (first | exact SL.Frm.nil | exact SL.Frm.refl | (apply SL.Frm.cons; repeat (first | exact SL.Pick.head | apply SL.Pick.tail)))); done) | fail)) ?_
  rintro v L ⟨L1, ⟨rfl, hL⟩, rfl⟩
  rcases hL with ⟨h0, rfl⟩ | ⟨h0, a', cap', s', rfl⟩
  · exact ⟨_, ⟨rfl, rfl⟩, by rw [show putL l f = l from if_neg h0]; exact (EntD.frm (by first | ((repeat (first | exact SL.Frm.nil | exact SL.Frm.refl | (apply SL.Frm.cons; repeat (first | exact SL.Pick.head | apply SL.Pick.tail)))); done) | fail) (net_intro fs hx rfl) (EntD.cons (by first | ((repeat (first | exact SL.Pick.head | apply SL.Pick.tail)); done) | fail) EntD.nil))⟩
  · exact ⟨_, ⟨rfl, rfl⟩, by rw [show putL l f = l ++ [f] from if_pos h0]; exact (EntD.frm (by first | ((repeat (first | exact SL.Frm.nil | exact SL.Frm.refl | (apply SL.Frm.cons; repeat (first | exact SL.Pick.head | apply SL.Pick.tail)))); done) | fail) (net_snoc (s := s') fs hx rfl) (EntD.cons (by first | ((repeat (first | exact SL.Pick.head | apply SL.Pick.tail)); done) | fail) EntD.nil))⟩
theorem put_rawG {X : HProp} (nb m cap1 : Nat) (a1 : Option Addr) (cs : List Value) (f : Fr) (s : Option Addr × Nat) (hX : Rd X s.1 s.2 f.bs) : Spec Try.prog 9 [.pointer (some ⟨nb, 0, none⟩), .agg (frV f s).toArray]
    [blk nb 65 [.slice a1 m cap1, .bool true], own 31 5 a1 m cap1 cs, X]
    (fun r L => r = .int .i64 (putN m f) ∧ ((putN m f ≠ 0 ∧ L = [blk nb 65 [.slice a1 m cap1, .bool true], own 31 5 a1 m cap1 cs, X]) ∨
      (putN m f = 0 ∧ ∃ a cap s', L = [blk nb 65 [.slice a (m + 1) cap, .bool true], own 31 5 a (m + 1) cap (cs ++ frV f s'), X, byt s' f.bs]))) := by
  obtain ⟨c1, n1, c2, n2, bs⟩ := f
  obtain ⟨a0, cap0⟩ := s
  simp only [frV] at *
  refine SL.Spec.of_TK Go.Proofs.Try.func9 rfl rfl SL.call9 rfl ?_
  repeat' (first | (refine SL.W.call (none_spec _ _ _) ?_; rintro _ _ ⟨rfl, rfl⟩; try simp only [List.cons_append, List.nil_append]) | (refine SL.W.call (may_spec _ _) ?_; rintro _ _ ⟨rfl, rfl⟩; try simp only [List.cons_append, List.nil_append]) | (refine SL.W.call (own_gen ⟨c1, n1, c2, n2, bs⟩ (a0, cap0) hX (by simp only; omega)) ?_; rintro _ _ ⟨⟨a', cap'⟩, rfl, rfl⟩; try simp only [List.cons_append, List.nil_append]) | (refine SL.TO.is ?_; first | refine SL.TO.nil ?_ | (refine SL.TO.nilD ?_; simp only [SL.setB]) | refine SL.W.pass ?_ | refine SL.W.pass0 ?_ | (refine SL.W.pure ?_; first | refine SL.W.pv ?_ | refine SL.W.pv0 ?_ | refine SL.W.lenMp ?_ | (refine SL.W.guardP (fun h => ?_) (fun h => ?_) <;> first | contradiction | (exfalso; omega) | (exfalso; revert h; simp; done) | skip) | (refine SL.W.guardB (fun h => ?_) (fun h => ?_) <;> (fail_if_success (have : h = (rfl : true = true) := rfl)))) | (refine SL.W.loud ?_; first | refine SL.W.load ?_ | refine SL.W.loadA ?_ | refine SL.W.store ?_ | refine SL.W.storeA ?_ | (refine SL.W.box ?_; intro b) | (refine SL.W.alloc ?_; intro b) | (refine SL.W.buildSlice ?_; intro b) | (refine SL.W.append ?_; intro a cap) | refine SL.W.bytesToStr ?_ | (refine SL.W.makeSlice ?_; intro b) | refine SL.W.lookupOk ?_ | refine SL.W.lookup ?_ | (refine SL.W.makeMap ?_; intro b) | refine SL.W.mapUpdate ?_ | (refine SL.W.mapEntry ?_; intro stamp) | refine SL.W.entryStore ?_ | (refine SL.W.range ?_; intro it) | refine SL.W.delete ?_ | (refine SL.W.guardP (fun h => ?_) (fun h => ?_) <;> first | contradiction | (exfalso; omega) | (exfalso; revert h; simp; done) | skip) | (refine SL.W.guardB (fun h => ?_) (fun h => ?_) <;> (fail_if_success (have : h = (rfl : true = true) := rfl))))) | (refine SL.TK.is ?_; first | refine SL.TK.seq ?_ | refine SL.TK.region ?_ | refine SL.TK.regionD SL.mixed (by simp only [SL.falses] <;> rfl) ?_ | refine SL.TK.block ?_ | refine SL.TK.inBlock ?_ | refine SL.TK.skip ?_ | refine SL.TK.scope ?_ | refine SL.TK.inScope ?_ | refine SL.TK.label ?_ | refine SL.W.exit ?_ | refine SL.W.condT ?_ | refine SL.W.condF ?_ | (refine SL.W.condP (fun h => ?_) (fun h => ?_) <;> first | contradiction | (exfalso; omega) | (exfalso; revert h; simp; done) | skip) | refine SL.W.condB (fun h => ?_) (fun h => ?_)) | (refine SL.TD.is ?_; first | (refine SL.TD.fin (by rfl) ?_; simp only [List.append_nil, List.cons_append, List.nil_append]) | refine SL.W.dpass ?_ | refine SL.W.dpure ?_ | refine SL.W.dload ?_ | refine SL.W.dloadA ?_ | refine SL.W.dfrz ?_ | (refine SL.W.dthaw ?_; simp only [List.append_nil, List.cons_append, List.nil_append]) | (refine SL.W.dguardP (fun h => ?_) (fun h => ?_) <;> first | contradiction | (exfalso; omega) | (exfalso; revert h; simp; done) | skip) | (refine SL.W.dguardB (fun h => ?_) (fun h => ?_) <;> (fail_if_success (have : h = (rfl : true = true) := rfl))) | refine SL.W.done ?_ | refine SL.W.dtwo ?_ ?_ | refine SL.W.dthree ?_ ?_ ?_))
  ·
    have e : putN m ⟨c1, n1, c2, n2, bs⟩ = 1 := by
      simp only [Bool.not_eq_true', Bool.not_eq_false'] at *
      simp [putN, *] <;> omega
    exact SL.TK.retD Try.func9 (SL.Res.one rfl (by rfl)) ⟨by rw [e], .inl ⟨by rw [e]; decide, rfl⟩⟩ (EntD.cons (by first | ((repeat (first | exact SL.Pick.head | apply SL.Pick.tail)); done) | fail) (EntD.cons (by first | ((repeat (first | exact SL.Pick.head | apply SL.Pick.tail)); done) | fail) (EntD.cons (by first | ((repeat (first | exact SL.Pick.head | apply SL.Pick.tail)); done) | fail) EntD.nil)))
  ·
    have e : putN m ⟨c1, n1, c2, n2, bs⟩ = 1 := by
      simp only [Bool.not_eq_true', Bool.not_eq_false'] at *
      simp [putN, *] <;> omega
    exact SL.TK.retD Try.func9 (SL.Res.one rfl (by rfl)) ⟨by rw [e], .inl ⟨by rw [e]; decide, rfl⟩⟩ (EntD.cons (by first | ((repeat (first | exact SL.Pick.head | apply SL.Pick.tail)); done) | fail) (EntD.cons (by first | ((repeat (first | exact SL.Pick.head | apply SL.Pick.tail)); done) | fail) (EntD.cons (by first | ((repeat (first | exact SL.Pick.head | apply SL.Pick.tail)); done) | fail) EntD.nil)))
  ·
    have e : putN m ⟨c1, n1, c2, n2, bs⟩ = 3 := by
      simp only [Bool.not_eq_true', Bool.not_eq_false'] at *
      simp [putN, *] <;> omega
    exact SL.TK.retD Try.func9 (SL.Res.one rfl (by rfl)) ⟨by rw [e], .inl ⟨by rw [e]; decide, rfl⟩⟩ (EntD.cons (by first | ((repeat (first | exact SL.Pick.head | apply SL.Pick.tail)); done) | fail) (EntD.cons (by first | ((repeat (first | exact SL.Pick.head | apply SL.Pick.tail)); done) | fail) (EntD.cons (by first | ((repeat (first | exact SL.Pick.head | apply SL.Pick.tail)); done) | fail) EntD.nil)))
  ·
    have e : putN m ⟨c1, n1, c2, n2, bs⟩ = 7 := by
      simp only [Bool.not_eq_true', Bool.not_eq_false'] at *
      simp [putN, *] <;> omega
    exact SL.TK.retD Try.func9 (SL.Res.one rfl (by rfl)) ⟨by rw [e], .inl ⟨by rw [e]; decide, rfl⟩⟩ (EntD.cons (by first | ((repeat (first | exact SL.Pick.head | apply SL.Pick.tail)); done) | fail) (EntD.cons (by first | ((repeat (first | exact SL.Pick.head | apply SL.Pick.tail)); done) | fail) (EntD.cons (by first | ((repeat (first | exact SL.Pick.head | apply SL.Pick.tail)); done) | fail) EntD.nil)))
  all_goals
    have e : putN m ⟨c1, n1, c2, n2, bs⟩ = 0 := by
      simp only [Bool.not_eq_true', Bool.not_eq_false'] at *
      simp [putN, *] <;> omega
    exact SL.TK.retD Try.func9 (SL.Res.one rfl (by rfl)) ⟨by rw [e], .inr ⟨e, _, _, (a', cap'), rfl⟩⟩ (EntD.cons (by first | ((repeat (first | exact SL.Pick.head | apply SL.Pick.tail)); done) | fail) (EntD.cons (by first | ((repeat (first | exact SL.Pick.head | apply SL.Pick.tail)); done) | fail) (EntD.cons (by first | ((repeat (first | exact SL.Pick.head | apply SL.Pick.tail)); done) | fail) (EntD.cons (by first | ((repeat (first | exact SL.Pick.head | apply SL.Pick.tail)); done) | fail) EntD.nil))))

theorem put_specG {X : HProp} (nb : Nat) (l : List Fr) (f : Fr) (s : Option Addr × Nat) (hX : Rd X s.1 s.2 f.bs) : Spec Try.prog 9 [.pointer (some ⟨nb, 0, none⟩), .agg (frV f s).toArray] [NetAt nb l, X]
    (fun r L => r = .int .i64 (putN l.length f) ∧ L = [NetAt nb (putL l f), X]) := by
  refine SL.Spec.openP SL.call9 net_open (fun x hx => ?_)
  obtain ⟨⟨a, cap⟩, fs⟩ := x
  refine SL.Spec.postD (SL.Spec.framed (put_rawG nb l.length cap a (cellsP fs) f s hX) [seps (framesP fs)] (by first | ((repeat (first | exact SL.Frm.nil | exact SL.Frm.refl | (apply SL.Frm.cons; repeat (first | exact SL.Pick.head | apply SL.Pick.tail)))); done) | fail)) ?_
  rintro v L ⟨L1, ⟨rfl, hL⟩, rfl⟩
  rcases hL with ⟨h0, rfl⟩ | ⟨h0, a', cap', s', rfl⟩
  · exact ⟨_, ⟨rfl, rfl⟩, by rw [show putL l f = l from if_neg h0]; exact (EntD.frm (by first | ((repeat (first | exact SL.Frm.nil | exact SL.Frm.refl | (apply SL.Frm.cons; repeat (first | exact SL.Pick.head | apply SL.Pick.tail)))); done) | fail) (net_intro fs hx rfl) (EntD.cons (by first | ((repeat (first | exact SL.Pick.head | apply SL.Pick.tail)); done) | fail) EntD.nil))⟩
  · exact ⟨_, ⟨rfl, rfl⟩, by rw [show putL l f = l ++ [f] from if_pos h0]; exact (EntD.frm (by first | ((repeat (first | exact SL.Frm.nil | exact SL.Frm.refl | (apply SL.Frm.cons; repeat (first | exact SL.Pick.head | apply SL.Pick.tail)))); done) | fail) (net_snoc (s := s') fs hx rfl) (EntD.cons (by first | ((repeat (first | exact SL.Pick.head | apply SL.Pick.tail)); done) | fail) EntD.nil))⟩
end SL
