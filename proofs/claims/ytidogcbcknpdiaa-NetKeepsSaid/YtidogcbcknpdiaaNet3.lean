/-
  Chapter 29: contracts of at, Delete, and what Take, Double and Flip do there.
-/
import Derived.Test.YtidogcbcknpdiaaNet2
set_option linter.unusedVariables false
set_option linter.unusedSimpArgs false
set_option maxRecDepth 10000
namespace SL
open Go Go.Proofs
attribute [local irreducible] SL.TK SL.TO SL.TD SL.PV SL.Pick SL.Frm SL.Ent SL.Sub SL.EvAll SL.seps SL.sep SL.Cut SL.PutAt SL.blk SL.EvP SL.Fill SL.Src SL.EntD SL.own SL.ex SL.fact SL.orig

theorem at_out (nb m cap : Nat) (k : Int) (a : Option Addr) (fv : Value) (hk : ¬ (0 ≤ k ∧ k < m)) :
    Spec Try.prog 29 [.pointer (some ⟨nb, 0, none⟩), .int .i64 k, fv] [blk nb 65 [.slice a m cap, .bool true]] (fun r L => r = .int .i64 6 ∧ L = [blk nb 65 [.slice a m cap, .bool true]]) := by
  refine SL.Spec.of_TK Go.Proofs.Try.func29 rfl rfl SL.call29 rfl ?_
  repeat' (first | (refine SL.W.call (none_spec _ _ _) ?_; rintro _ _ ⟨rfl, rfl⟩; try simp only [List.cons_append, List.nil_append]) | (refine SL.TO.is ?_; first | refine SL.TO.nil ?_ | (refine SL.TO.nilD ?_; simp only [SL.setB]) | refine SL.W.pass ?_ | refine SL.W.pass0 ?_ | (refine SL.W.pure ?_; first | refine SL.W.pv ?_ | refine SL.W.pv0 ?_ | refine SL.W.lenMp ?_ | (refine SL.W.guardP (fun h => ?_) (fun h => ?_) <;> first | contradiction | (exfalso; omega) | (exfalso; revert h; simp; done) | skip) | (refine SL.W.guardB (fun h => ?_) (fun h => ?_) <;> (fail_if_success (have : h = (rfl : true = true) := rfl)))) | (refine SL.W.loud ?_; first | refine SL.W.load ?_ | refine SL.W.loadA ?_ | refine SL.W.store ?_ | refine SL.W.storeA ?_ | (refine SL.W.box ?_; intro b) | (refine SL.W.alloc ?_; intro b) | (refine SL.W.buildSlice ?_; intro b) | (refine SL.W.append ?_; intro a cap) | refine SL.W.bytesToStr ?_ | (refine SL.W.makeSlice ?_; intro b) | refine SL.W.lookupOk ?_ | refine SL.W.lookup ?_ | (refine SL.W.makeMap ?_; intro b) | refine SL.W.mapUpdate ?_ | (refine SL.W.mapEntry ?_; intro stamp) | refine SL.W.entryStore ?_ | (refine SL.W.range ?_; intro it) | refine SL.W.delete ?_ | (refine SL.W.guardP (fun h => ?_) (fun h => ?_) <;> first | contradiction | (exfalso; omega) | (exfalso; revert h; simp; done) | skip) | (refine SL.W.guardB (fun h => ?_) (fun h => ?_) <;> (fail_if_success (have : h = (rfl : true = true) := rfl))))) | (refine SL.TK.is ?_; first | refine SL.TK.seq ?_ | refine SL.TK.region ?_ | refine SL.TK.regionD SL.mixed (by simp only [SL.falses] <;> rfl) ?_ | refine SL.TK.block ?_ | refine SL.TK.inBlock ?_ | refine SL.TK.skip ?_ | refine SL.TK.scope ?_ | refine SL.TK.inScope ?_ | refine SL.TK.label ?_ | refine SL.W.exit ?_ | refine SL.W.condT ?_ | refine SL.W.condF ?_ | (refine SL.W.condP (fun h => ?_) (fun h => ?_) <;> first | contradiction | (exfalso; omega) | (exfalso; revert h; simp; done) | skip) | refine SL.W.condB (fun h => ?_) (fun h => ?_)) | (refine SL.TD.is ?_; first | (refine SL.TD.fin (by rfl) ?_; simp only [List.append_nil, List.cons_append, List.nil_append]) | refine SL.W.dpass ?_ | refine SL.W.dpure ?_ | refine SL.W.dload ?_ | refine SL.W.dloadA ?_ | refine SL.W.dfrz ?_ | (refine SL.W.dthaw ?_; simp only [List.append_nil, List.cons_append, List.nil_append]) | (refine SL.W.dguardP (fun h => ?_) (fun h => ?_) <;> first | contradiction | (exfalso; omega) | (exfalso; revert h; simp; done) | skip) | (refine SL.W.dguardB (fun h => ?_) (fun h => ?_) <;> (fail_if_success (have : h = (rfl : true = true) := rfl))) | refine SL.W.done ?_ | refine SL.W.dtwo ?_ ?_ | refine SL.W.dthree ?_ ?_ ?_))
  all_goals refine SL.TK.ret Go.Proofs.Try.func29 (SL.Res.one rfl (by rfl)) (⟨rfl, rfl⟩) (by first | ((repeat (first | exact SL.Ent.refl | refine SL.Ent.cons (by first | ((repeat (first | exact SL.Pick.head | apply SL.Pick.tail)); done) | fail) ?_)); done) | fail)

theorem at_in {fdo : Nat} {caps : List Value} {R : List HProp} {post : Post} (nb b m cap k : Nat) (hk : k < m)
    (hdo : Spec Try.prog fdo (.pointer (some ⟨b, k * 5, none⟩) :: caps) (blk nb 65 [.slice (some ⟨b, 0, none⟩) m cap, .bool true] :: R) post) :
    Spec Try.prog 29 [.pointer (some ⟨nb, 0, none⟩), .int .i64 k, .func (.func fdo) #[] caps.toArray] (blk nb 65 [.slice (some ⟨b, 0, none⟩) m cap, .bool true] :: R) post := by
  refine SL.Spec.of_TK Go.Proofs.Try.func29 rfl rfl SL.call29 rfl ?_
  repeat' (first | (refine SL.W.call (none_spec _ _ _) ?_; rintro _ _ ⟨rfl, rfl⟩; try simp only [List.cons_append, List.nil_append]) | (refine SL.TO.callVal (cap := caps) hdo (by rfl) (by rfl) rfl (by first | ((repeat (first | exact SL.EvAll.nil | (apply SL.EvAll.cons; rfl))); done) | fail) (by rfl) (by first | ((repeat (first | exact SL.Frm.nil | exact SL.Frm.refl | (apply SL.Frm.cons; repeat (first | exact SL.Pick.head | apply SL.Pick.tail)))); done) | fail) ?_; intro v L' hp; simp only [List.append_nil]) | (refine SL.TO.is ?_; first | refine SL.TO.nil ?_ | (refine SL.TO.nilD ?_; simp only [SL.setB]) | refine SL.W.pass ?_ | refine SL.W.pass0 ?_ | (refine SL.W.pure ?_; first | refine SL.W.pv ?_ | refine SL.W.pv0 ?_ | refine SL.W.lenMp ?_ | (refine SL.W.guardP (fun h => ?_) (fun h => ?_) <;> first | contradiction | (exfalso; omega) | (exfalso; revert h; simp; done) | skip) | (refine SL.W.guardB (fun h => ?_) (fun h => ?_) <;> (fail_if_success (have : h = (rfl : true = true) := rfl)))) | (refine SL.W.loud ?_; first | refine SL.W.load ?_ | refine SL.W.loadA ?_ | refine SL.W.store ?_ | refine SL.W.storeA ?_ | (refine SL.W.box ?_; intro b) | (refine SL.W.alloc ?_; intro b) | (refine SL.W.buildSlice ?_; intro b) | (refine SL.W.append ?_; intro a cap) | refine SL.W.bytesToStr ?_ | (refine SL.W.makeSlice ?_; intro b) | refine SL.W.lookupOk ?_ | refine SL.W.lookup ?_ | (refine SL.W.makeMap ?_; intro b) | refine SL.W.mapUpdate ?_ | (refine SL.W.mapEntry ?_; intro stamp) | refine SL.W.entryStore ?_ | (refine SL.W.range ?_; intro it) | refine SL.W.delete ?_ | (refine SL.W.guardP (fun h => ?_) (fun h => ?_) <;> first | contradiction | (exfalso; omega) | (exfalso; revert h; simp; done) | skip) | (refine SL.W.guardB (fun h => ?_) (fun h => ?_) <;> (fail_if_success (have : h = (rfl : true = true) := rfl))))) | (refine SL.TK.is ?_; first | refine SL.TK.seq ?_ | refine SL.TK.region ?_ | refine SL.TK.regionD SL.mixed (by simp only [SL.falses] <;> rfl) ?_ | refine SL.TK.block ?_ | refine SL.TK.inBlock ?_ | refine SL.TK.skip ?_ | refine SL.TK.scope ?_ | refine SL.TK.inScope ?_ | refine SL.TK.label ?_ | refine SL.W.exit ?_ | refine SL.W.condT ?_ | refine SL.W.condF ?_ | (refine SL.W.condP (fun h => ?_) (fun h => ?_) <;> first | contradiction | (exfalso; omega) | (exfalso; revert h; simp; done) | skip) | refine SL.W.condB (fun h => ?_) (fun h => ?_)) | (refine SL.TD.is ?_; first | (refine SL.TD.fin (by rfl) ?_; simp only [List.append_nil, List.cons_append, List.nil_append]) | refine SL.W.dpass ?_ | refine SL.W.dpure ?_ | refine SL.W.dload ?_ | refine SL.W.dloadA ?_ | refine SL.W.dfrz ?_ | (refine SL.W.dthaw ?_; simp only [List.append_nil, List.cons_append, List.nil_append]) | (refine SL.W.dguardP (fun h => ?_) (fun h => ?_) <;> first | contradiction | (exfalso; omega) | (exfalso; revert h; simp; done) | skip) | (refine SL.W.dguardB (fun h => ?_) (fun h => ?_) <;> (fail_if_success (have : h = (rfl : true = true) := rfl))) | refine SL.W.done ?_ | refine SL.W.dtwo ?_ ?_ | refine SL.W.dthree ?_ ?_ ?_))
  exact SL.TK.retD Try.func29 (SL.Res.one rfl (by rfl)) hp EntD.refl

/-! ### slices.Delete of one frame -/
theorem cellsP_take (fs : Frs) (k : Nat) : (cellsP fs).take (k * 5) = cellsP (fs.take k) := by
  induction fs generalizing k with
  | nil => simp [cellsP]
  | cons p fs ih =>
    cases k with
    | zero => simp [cellsP]
    | succ k =>
      have : (frV p.1 p.2).length = 5 := rfl
      simp only [cellsP, List.take_succ_cons]
      rw [show (k + 1) * 5 = (frV p.1 p.2).length + k * 5 from by rw [this]; omega, List.take_length_add_append, ih]
theorem cellsP_drop (fs : Frs) (k : Nat) : (cellsP fs).drop (k * 5) = cellsP (fs.drop k) := by
  induction fs generalizing k with
  | nil => simp [cellsP]
  | cons p fs ih =>
    cases k with
    | zero => simp [cellsP]
    | succ k =>
      have : (frV p.1 p.2).length = 5 := rfl
      simp only [cellsP, List.drop_succ_cons]
      rw [show (k + 1) * 5 = (frV p.1 p.2).length + k * 5 from by rw [this]; omega, List.drop_length_add_append, ih]

def zf : List Value := [.bool false, .int .u32 0, .bool false, .int .u32 0, .slice none 0 0]

theorem delete_spec (b cap k : Nat) (fs : Frs) (extra : List Value) (hk : k < fs.length) (hc : fs.length ≤ cap) (hl : fs.length ≤ 4096) (hcap : (cellsP fs ++ extra).length = cap * 5) :
    Spec Try.prog 31 [.slice (some ⟨b, 0, none⟩) fs.length cap, .int .i64 k, .int .i64 ((k : Int) + 1)] [blk b 31 (cellsP fs ++ extra)]
      (fun r L => r = .slice (some ⟨b, 0, none⟩) (fs.length - 1) cap ∧ L = [blk b 31 (cellsP (fs.eraseIdx k) ++ (zf ++ extra))]) := by
  have hlen := cellsP_length fs
  have hnew : Cut (cellsP fs ++ extra) (0 + (k + 1) * 5) ((fs.length - (k + 1)) * 5) (cellsP (fs.drop (k + 1))) := by
    refine Cut.intro (by rw [cellsP_length, List.length_drop]) (fun j v hj => ?_)
    have hj' : j < (fs.length - (k + 1)) * 5 := by
      have := (List.getElem?_eq_some_iff.1 hj).1
      rwa [cellsP_length, List.length_drop] at this
    rw [← cellsP_drop, List.getElem?_drop] at hj
    rw [Nat.zero_add, List.getElem?_append_left (by rw [hlen]; omega)]
    exact hj
  have hone := one_cellsP (fs.drop (k + 1))
  have hput1 : PutAt (cellsP fs ++ extra) (0 + k * 5) (cellsP (fs.drop (k + 1))) (cellsP (fs.take k) ++ cellsP (fs.drop (k + 1)) ++ (cellsP (fs.drop (fs.length - 1)) ++ extra)) := by
    refine PutAt.intro (by rw [cellsP_length, List.length_drop, List.length_append, hlen]; omega) ?_
    rw [Nat.zero_add, List.take_append_of_le_length (by rw [hlen]; omega), cellsP_take]
    congr 1
    rw [cellsP_length, List.length_drop, List.drop_append_of_le_length (by rw [hlen]; omega), ← cellsP_drop]
    congr 2
    omega
  have hput2 : PutAt (cellsP (fs.take k) ++ cellsP (fs.drop (k + 1)) ++ (cellsP (fs.drop (fs.length - 1)) ++ extra)) (0 + (fs.length - 1) * 5) zf (cellsP (fs.eraseIdx k) ++ (zf ++ extra)) := by
    have e0 : cellsP (fs.take k) ++ cellsP (fs.drop (k + 1)) = cellsP (fs.eraseIdx k) := by rw [← cellsP_append, List.eraseIdx_eq_take_drop_succ]
    have e1 : (cellsP (fs.eraseIdx k)).length = (fs.length - 1) * 5 := by rw [cellsP_length, List.length_eraseIdx_of_lt hk]
    have e2 : (cellsP (fs.drop (fs.length - 1))).length = 5 := by rw [cellsP_length, List.length_drop]; omega
    rw [e0]
    have e3 : zf.length = 5 := rfl
    refine PutAt.intro (by simp only [List.length_append, e1, e2, e3]; omega) ?_
    rw [Nat.zero_add, ← e1, List.take_left, e3, List.append_assoc, List.drop_length_add_append, ← e2, List.drop_left]
  refine SL.Spec.of_TK Go.Proofs.Try.func31 rfl rfl SL.call31 rfl ?_
  repeat' (first | refine SL.TO.appendFit (by rfl) rfl (by rfl) (by rfl) (by first | ((repeat (first | exact SL.Pick.head | apply SL.Pick.tail)); done) | fail) (SL.Src.sl SL.Pick.head (by omega) (by omega) hnew) hone (by omega) hput1 (s2 := fs.length - 1) (by omega) ?_ | refine SL.TO.clear (by rfl) (by rfl) (by rfl) (by simp [Go.Value.cells, Go.Value.oneCell']) (by first | ((repeat (first | exact SL.Pick.head | apply SL.Pick.tail)); done) | fail) hput2 ?_ | (refine SL.TO.slot (d := 31) (by rfl) (v' := .slice (some ⟨b, 0 + (fs.length - 1) * 5, none⟩) 1 (cap - (fs.length - 1))) (by rw [show fs.length - (fs.length - 1) = 1 from by omega, Nat.zero_add]) ?_; refine SL.TO.clear (by rfl) (by rfl) (by rfl) (by simp [Go.Value.cells, Go.Value.oneCell']) (by first | ((repeat (first | exact SL.Pick.head | apply SL.Pick.tail)); done) | fail) hput2 ?_) | (refine SL.TO.is ?_; first | refine SL.TO.nil ?_ | (refine SL.TO.nilD ?_; simp only [SL.setB]) | refine SL.W.pass ?_ | refine SL.W.pass0 ?_ | (refine SL.W.pure ?_; first | refine SL.W.pv ?_ | refine SL.W.pv0 ?_ | refine SL.W.lenMp ?_ | (refine SL.W.guardP (fun h => ?_) (fun h => ?_) <;> first | contradiction | (exfalso; omega) | (exfalso; revert h; simp; done) | skip) | (refine SL.W.guardB (fun h => ?_) (fun h => ?_) <;> (fail_if_success (have : h = (rfl : true = true) := rfl)))) | (refine SL.W.loud ?_; first | refine SL.W.load ?_ | refine SL.W.loadA ?_ | refine SL.W.store ?_ | refine SL.W.storeA ?_ | (refine SL.W.box ?_; intro b) | (refine SL.W.alloc ?_; intro b) | (refine SL.W.buildSlice ?_; intro b) | (refine SL.W.append ?_; intro a cap) | refine SL.W.bytesToStr ?_ | (refine SL.W.makeSlice ?_; intro b) | refine SL.W.lookupOk ?_ | refine SL.W.lookup ?_ | (refine SL.W.makeMap ?_; intro b) | refine SL.W.mapUpdate ?_ | (refine SL.W.mapEntry ?_; intro stamp) | refine SL.W.entryStore ?_ | (refine SL.W.range ?_; intro it) | refine SL.W.delete ?_ | (refine SL.W.guardP (fun h => ?_) (fun h => ?_) <;> first | contradiction | (exfalso; omega) | (exfalso; revert h; simp; done) | skip) | (refine SL.W.guardB (fun h => ?_) (fun h => ?_) <;> (fail_if_success (have : h = (rfl : true = true) := rfl))))) | (refine SL.TK.is ?_; first | refine SL.TK.seq ?_ | refine SL.TK.region ?_ | refine SL.TK.regionD SL.mixed (by simp only [SL.falses] <;> rfl) ?_ | refine SL.TK.block ?_ | refine SL.TK.inBlock ?_ | refine SL.TK.skip ?_ | refine SL.TK.scope ?_ | refine SL.TK.inScope ?_ | refine SL.TK.label ?_ | refine SL.W.exit ?_ | refine SL.W.condT ?_ | refine SL.W.condF ?_ | (refine SL.W.condP (fun h => ?_) (fun h => ?_) <;> first | contradiction | (exfalso; omega) | (exfalso; revert h; simp; done) | skip) | refine SL.W.condB (fun h => ?_) (fun h => ?_)) | (refine SL.TD.is ?_; first | (refine SL.TD.fin (by rfl) ?_; simp only [List.append_nil, List.cons_append, List.nil_append]) | refine SL.W.dpass ?_ | refine SL.W.dpure ?_ | refine SL.W.dload ?_ | refine SL.W.dloadA ?_ | refine SL.W.dfrz ?_ | (refine SL.W.dthaw ?_; simp only [List.append_nil, List.cons_append, List.nil_append]) | (refine SL.W.dguardP (fun h => ?_) (fun h => ?_) <;> first | contradiction | (exfalso; omega) | (exfalso; revert h; simp; done) | skip) | (refine SL.W.dguardB (fun h => ?_) (fun h => ?_) <;> (fail_if_success (have : h = (rfl : true = true) := rfl))) | refine SL.W.done ?_ | refine SL.W.dtwo ?_ ?_ | refine SL.W.dthree ?_ ?_ ?_))
  all_goals refine SL.TK.ret Go.Proofs.Try.func31 (SL.Res.one rfl (by rfl)) (⟨rfl, rfl⟩) (by first | ((repeat (first | exact SL.Ent.refl | refine SL.Ent.cons (by first | ((repeat (first | exact SL.Pick.head | apply SL.Pick.tail)); done) | fail) ?_)); done) | fail)
end SL
