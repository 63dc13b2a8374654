/-
  Contracts and rules for what the last text proves.
-/
import Derived.Test.YtkkibkdjkmghiaaGreatDoorPk7
import Derived.LaidEql
section
set_option linter.unusedVariables false
set_option linter.unusedSimpArgs false
set_option maxRecDepth 10000
namespace SL.Lz
open Go Go.Proofs Go.RowKit
attribute [local irreducible] SL.TK SL.TO SL.TD SL.PV SL.Pick SL.Frm SL.Ent SL.Sub SL.EvAll SL.seps SL.sep SL.Cut SL.PutAt SL.blk SL.EvP SL.Fill SL.Src SL.EntD SL.own SL.ex SL.fact SL.orig
theorem mapsClone_ext (mb : Nat) (T : As2) : Ext Tryz.prog 52 [.iface 208 (.map (some mb))] [mp (Value.int .u32) mb (pv T)] (fun r L => ∃ b, r = .iface 208 (.map (some b)) ∧ L = [mp (Value.int .u32) b (pv T), mp (Value.int .u32) mb (pv T)]) :=
  Ext.clone Tryz.func52 (by kernel_rfl) (by kernel_rfl) (by kernel_rfl) (by kernel_rfl)
theorem clone_spec (mb : Nat) (T : As2) : Spec Tryz.prog 144 [.map (some mb)] [mp (Value.int .u32) mb (pv T)] (fun r L => ∃ b, r = .map (some b) ∧ L = [mp (Value.int .u32) b (pv T), mp (Value.int .u32) mb (pv T)]) := by
  have hE := Lib.hid (mapsClone_ext mb T)
  refine SL.Spec.of_TK Go.Proofs.Tryz.func144 rfl rfl SL.call144 rfl ?_
  repeat' (first | (refine SL.TO.is ?_; first | (refine SL.TO.door (o := ⟨_, .makeInterface _ _, _, _, _, _⟩) ?_; refine SL.W.pvn (PV.ifaceM (by rfl)) ?_) | (refine SL.TO.door (o := ⟨_, .typeAssert _ _ _ _, _, _, _, _⟩) ?_; refine SL.W.pvn (PV.assertM (by rfl)) ?_) | (refine SL.TO.door (o := ⟨_, .call ⟨.value (.func 52), _, _⟩, _, _, _, _⟩) ?_; first | (refine SL.W.callExt hE.out ?_; rintro _ _ ⟨b7, rfl, rfl⟩; try simp only [SL.aps])) | refine SL.TO.nil ?_ | (refine SL.TO.nilD ?_; simp only [SL.setB]) | refine SL.W.pass ?_ | refine SL.W.pass0 ?_ | (refine SL.W.pure ?_; first | refine SL.W.pv ?_ | refine SL.W.pv0 ?_ | refine SL.W.lenMp ?_) | (refine SL.W.loud ?_; first | refine SL.W.load ?_ | refine SL.W.loadA ?_ | refine SL.W.store ?_ | refine SL.W.storeA ?_ | (refine SL.W.box ?_; intro b) | (refine SL.W.alloc ?_; intro b) | (refine SL.W.buildSlice ?_; intro b) | (refine SL.W.append ?_; intro a cap) | refine SL.W.bytesToStr ?_ | refine SL.W.toIntC ?_ | (refine SL.W.makeSlice ?_; intro b) | refine SL.W.lookupOk ?_ | refine SL.W.lookup ?_ | (refine SL.W.makeMap ?_; intro b) | refine SL.W.mapUpdate ?_ | (refine SL.W.mapEntry ?_; intro stamp) | refine SL.W.entryStore ?_ | (refine SL.W.range ?_; intro it) | refine SL.W.delete ?_)) | (refine SL.TK.is ?_; first | refine SL.TK.seq ?_ | refine SL.TK.region ?_ | refine SL.TK.regionD SL.mixed (by simp only [SL.falses] <;> rfl) ?_ | refine SL.TK.block ?_ | refine SL.TK.inBlock ?_ | refine SL.TK.skip ?_ | refine SL.TK.scope ?_ | refine SL.TK.inScope ?_ | refine SL.TK.label ?_ | refine SL.W.exit ?_ | refine SL.W.condT ?_ | refine SL.W.condF ?_) | (refine SL.TD.is ?_; first | (refine SL.W.dfin ?_; simp only [SL.aps]) | refine SL.W.dpass ?_ | refine SL.W.dpure ?_ | refine SL.W.dload ?_ | refine SL.W.dloadA ?_ | refine SL.W.dfrz ?_ | (refine SL.W.dthaw ?_; simp only [SL.aps])) | ((first | refine SL.W.guardP (fun h => ?_) (fun h => ?_) | refine SL.W.condP (fun h => ?_) (fun h => ?_) | refine SL.W.dguardP (fun h => ?_) (fun h => ?_)) <;> (fail_if_success (have : h = trivial := rfl)) <;> (fail_if_success (have : h = not_false := rfl)) <;> first | contradiction | (exfalso; omega) | (exfalso; revert h; simp; done) | skip) | ((first | refine SL.W.guardB (fun h => ?_) (fun h => ?_) | refine SL.W.dguardB (fun h => ?_) (fun h => ?_)) <;> (fail_if_success (have : h = (rfl : true = true) := rfl)) <;> (fail_if_success (have : h = (rfl : false = false) := rfl))) | refine SL.W.condB (fun h => ?_) (fun h => ?_) | (refine SL.TD.is ?_; first | refine SL.W.done ?_ | refine SL.W.dtwo ?_ ?_ | refine SL.W.dthree ?_ ?_ ?_))
  all_goals exact SL.TK.retD Tryz.func144 (SL.Res.one rfl (by rfl)) ⟨_, rfl, rfl⟩ (EntD.cons (by first | ((repeat (first | exact SL.Pick.head | apply SL.Pick.tail)); done) | fail) (EntD.cons (by first | ((repeat (first | exact SL.Pick.head | apply SL.Pick.tail)); done) | fail) EntD.nil))
theorem lsCopy_spec (nb : Nat) (T : As2) : Spec Tryz.prog 108 [.pointer (some ⟨nb, 0, none⟩)] [LeasesAt nb T] (fun r L => ∃ cb, r = .pointer (some ⟨cb, 0, none⟩) ∧ L = [LeasesAt cb T, LeasesAt nb T]) := by
  refine SL.Spec.of_TK Go.Proofs.Tryz.func108 rfl rfl SL.call108 rfl ?_
  refine SL.Lz.TK.openLs (by first | ((repeat (first | exact SL.Pick.head | apply SL.Pick.tail)); done) | fail) (fun mb => ?_)
  repeat' (first | (refine SL.TO.is ?_; first | (refine SL.TO.door (o := ⟨_, .call ⟨.value (.func 143), _, _⟩, _, _, _, _⟩) ?_; first | (refine SL.W.call (lsNone_spec _ _) ?_; rintro _ _ ⟨rfl, rfl⟩; try simp only [SL.aps])) | (refine SL.TO.door (o := ⟨_, .call ⟨.value (.func 144), _, _⟩, _, _, _, _⟩) ?_; first | (refine SL.W.call (clone_spec _ _) ?_; rintro _ _ ⟨b8, rfl, rfl⟩; try simp only [SL.aps])) | refine SL.TO.nil ?_ | (refine SL.TO.nilD ?_; simp only [SL.setB]) | refine SL.W.pass ?_ | refine SL.W.pass0 ?_ | (refine SL.W.pure ?_; first | refine SL.W.pv ?_ | refine SL.W.pv0 ?_ | refine SL.W.lenMp ?_) | (refine SL.W.loud ?_; first | refine SL.W.load ?_ | refine SL.W.loadA ?_ | refine SL.W.store ?_ | refine SL.W.storeA ?_ | (refine SL.W.box ?_; intro b) | (refine SL.W.alloc ?_; intro b) | (refine SL.W.buildSlice ?_; intro b) | (refine SL.W.append ?_; intro a cap) | refine SL.W.bytesToStr ?_ | refine SL.W.toIntC ?_ | (refine SL.W.makeSlice ?_; intro b) | refine SL.W.lookupOk ?_ | refine SL.W.lookup ?_ | (refine SL.W.makeMap ?_; intro b) | refine SL.W.mapUpdate ?_ | (refine SL.W.mapEntry ?_; intro stamp) | refine SL.W.entryStore ?_ | (refine SL.W.range ?_; intro it) | refine SL.W.delete ?_)) | (refine SL.TK.is ?_; first | refine SL.TK.seq ?_ | refine SL.TK.region ?_ | refine SL.TK.regionD SL.mixed (by simp only [SL.falses] <;> rfl) ?_ | refine SL.TK.block ?_ | refine SL.TK.inBlock ?_ | refine SL.TK.skip ?_ | refine SL.TK.scope ?_ | refine SL.TK.inScope ?_ | refine SL.TK.label ?_ | refine SL.W.exit ?_ | refine SL.W.condT ?_ | refine SL.W.condF ?_) | (refine SL.TD.is ?_; first | (refine SL.W.dfin ?_; simp only [SL.aps]) | refine SL.W.dpass ?_ | refine SL.W.dpure ?_ | refine SL.W.dload ?_ | refine SL.W.dloadA ?_ | refine SL.W.dfrz ?_ | (refine SL.W.dthaw ?_; simp only [SL.aps])) | ((first | refine SL.W.guardP (fun h => ?_) (fun h => ?_) | refine SL.W.condP (fun h => ?_) (fun h => ?_) | refine SL.W.dguardP (fun h => ?_) (fun h => ?_)) <;> (fail_if_success (have : h = trivial := rfl)) <;> (fail_if_success (have : h = not_false := rfl)) <;> first | contradiction | (exfalso; omega) | (exfalso; revert h; simp; done) | skip) | ((first | refine SL.W.guardB (fun h => ?_) (fun h => ?_) | refine SL.W.dguardB (fun h => ?_) (fun h => ?_)) <;> (fail_if_success (have : h = (rfl : true = true) := rfl)) <;> (fail_if_success (have : h = (rfl : false = false) := rfl))) | refine SL.W.condB (fun h => ?_) (fun h => ?_) | (refine SL.TD.is ?_; first | refine SL.W.done ?_ | refine SL.W.dtwo ?_ ?_ | refine SL.W.dthree ?_ ?_ ?_))
  all_goals exact SL.TK.retD Tryz.func108 (SL.Res.one rfl (by rfl)) ⟨_, rfl, rfl⟩ (EntD.frm (by first | ((repeat (first | exact SL.Frm.nil | exact SL.Frm.refl | (apply SL.Frm.cons; repeat (first | exact SL.Pick.head | apply SL.Pick.tail)))); done) | fail) ls_shut (EntD.frm (by first | ((repeat (first | exact SL.Frm.nil | exact SL.Frm.refl | (apply SL.Frm.cons; repeat (first | exact SL.Pick.head | apply SL.Pick.tail)))); done) | fail) ls_shut EntD.nil))
end SL.Lz
end
section
set_option linter.unusedVariables false
set_option linter.unusedSimpArgs false
namespace SL
open Go Go.Proofs Go.RowKit
structure Un where
  kind : Int
  pos : Int
  char : Int
  c : Int
  rq : Int
def unV (u : Un) : List Value := [.int .i64 u.kind, .int .i64 u.pos, .int .i32 u.char, .int .u32 u.c, .int .u64 u.rq]
structure RowX (X : HProp) (a : Option Addr) (us : List Un) : Prop where
  nil : a = none → us = []
  at_ : ∀ q, a = some q → ∀ i u, us[i]? = some u → RdA X (q.add (i * 5)) (unV u)
theorem RowX.take {X : HProp} {a : Option Addr} {us : List Un} (h : RowX X a us) (m : Nat) : RowX X a (us.take m) :=
  ⟨fun e => by rw [h.nil e]; simp, fun q e i u hi => h.at_ q e i u (by
    by_cases hm : i < m
    · rwa [List.getElem?_take_of_lt hm] at hi
    · rw [List.getElem?_eq_none (by simp; omega)] at hi; cases hi)⟩
theorem RowX.drop {X : HProp} {q : Addr} {us : List Un} (h : RowX X (some q) us) (m : Nat) : RowX X (some (q.add (m * 5))) (us.drop m) :=
  ⟨fun e => (by cases e), fun q' e i u hi => by
    cases e
    rw [add_add, ← Nat.add_mul]
    exact h.at_ q rfl (m + i) u (by rw [← List.getElem?_drop]; exact hi)⟩
theorem RowX.empty {X : HProp} {a : Option Addr} : RowX X a [] := ⟨fun _ => rfl, fun q e i u hi => by simp at hi⟩
def mayC (c : Int) : Bool := decide (0 ≤ c) && decide (c ≤ 1114111) && (decide (c < 55296) || decide (57343 < c))
end SL
end
section
set_option linter.unusedVariables false
set_option linter.unusedSimpArgs false
set_option maxRecDepth 10000
namespace SL
open Go Go.Proofs Go.RowKit
attribute [local irreducible] SL.TK SL.TO SL.TD SL.PV SL.Pick SL.Frm SL.Ent SL.Sub SL.EvAll SL.seps SL.sep SL.Cut SL.PutAt SL.blk SL.EvP SL.Fill SL.Src SL.EntD SL.own SL.ex SL.fact SL.orig
theorem utfMay_spec (c : Int) : Spec Tryz.prog 122 [.int .i32 c] [] (fun r L => r = .bool (mayC c) ∧ L = []) := by
  refine SL.Spec.of_TK Go.Proofs.Tryz.func122 rfl rfl SL.call122 rfl ?_
  repeat' (first | (refine SL.TO.is ?_; first | refine SL.TO.nil ?_ | (refine SL.TO.nilD ?_; simp only [SL.setB]) | refine SL.W.pass ?_ | refine SL.W.pass0 ?_ | (refine SL.W.pure ?_; first | refine SL.W.pv ?_ | refine SL.W.pv0 ?_) | (refine SL.W.loud ?_; first | refine SL.W.load ?_ | refine SL.W.loadA ?_ | refine SL.W.store ?_ | refine SL.W.storeA ?_ | (refine SL.W.box ?_; intro b) | (refine SL.W.alloc ?_; intro b) | (refine SL.W.buildSlice ?_; intro b) | (refine SL.W.append ?_; intro a cap) | refine SL.W.bytesToStr ?_ | refine SL.W.toIntC ?_ | (refine SL.W.makeSlice ?_; intro b))) | (refine SL.TK.is ?_; first | refine SL.TK.seq ?_ | refine SL.TK.region ?_ | refine SL.TK.regionD SL.mixed (by simp only [SL.falses] <;> rfl) ?_ | refine SL.TK.block ?_ | refine SL.TK.inBlock ?_ | refine SL.TK.skip ?_ | refine SL.TK.scope ?_ | refine SL.TK.inScope ?_ | refine SL.TK.label ?_ | refine SL.W.exit ?_ | refine SL.W.condT ?_ | refine SL.W.condF ?_) | (refine SL.TD.is ?_; first | (refine SL.W.dfin ?_; simp only [SL.aps]) | refine SL.W.dpass ?_ | refine SL.W.dpure ?_ | refine SL.W.dload ?_ | refine SL.W.dloadA ?_ | refine SL.W.dfrz ?_ | (refine SL.W.dthaw ?_; simp only [SL.aps])) | ((first | refine SL.W.guardP (fun h => ?_) (fun h => ?_) | refine SL.W.condP (fun h => ?_) (fun h => ?_) | refine SL.W.dguardP (fun h => ?_) (fun h => ?_)) <;> (fail_if_success (have : h = trivial := rfl)) <;> (fail_if_success (have : h = not_false := rfl)) <;> first | contradiction | (exfalso; omega) | (exfalso; revert h; simp; done) | skip) | ((first | refine SL.W.guardB (fun h => ?_) (fun h => ?_) | refine SL.W.dguardB (fun h => ?_) (fun h => ?_)) <;> (fail_if_success (have : h = (rfl : true = true) := rfl)) <;> (fail_if_success (have : h = (rfl : false = false) := rfl))) | refine SL.W.condB (fun h => ?_) (fun h => ?_) | (refine SL.TD.is ?_; first | refine SL.W.done ?_ | refine SL.W.dtwo ?_ ?_ | refine SL.W.dthree ?_ ?_ ?_))
  all_goals exact SL.TK.retD Tryz.func122 (SL.Res.one rfl (by rfl)) ⟨by simp [mayC, *] <;> omega, rfl⟩ EntD.nil
end SL
end
section
set_option linter.unusedVariables false
set_option linter.unusedSimpArgs false
set_option maxRecDepth 10000
namespace SL
open Go Go.Proofs Go.RowKit
attribute [local irreducible] SL.TK SL.TO SL.TD SL.PV SL.Pick SL.Frm SL.Ent SL.Sub SL.EvAll SL.seps SL.sep SL.Cut SL.PutAt SL.blk SL.EvP SL.Fill SL.Src SL.EntD SL.own SL.ex SL.fact SL.orig
end SL
end
section
set_option linter.unusedVariables false
set_option linter.unusedSimpArgs false
set_option maxRecDepth 10000
namespace SL
open Go Go.Proofs Go.RowKit
abbrev As2 := List (Int × Int)
def lkp (q : Int) : As2 → Option Int
  | [] => none
  | p :: l => if p.1 = q then some p.2 else lkp q l
def iup (q v : Int) : As2 → As2
  | [] => [(q, v)]
  | p :: l => if p.1 = q then (q, v) :: l else p :: iup q v l
def idl (q : Int) : As2 → As2
  | [] => []
  | p :: l => if p.1 = q then l else p :: idl q l
def pv (T : As2) : List (Int × Value) := T.map fun p => (p.1, .int .i64 p.2)
theorem get_pv (q : Int) (T : As2) : get q (pv T) = (lkp q T).map (Value.int .i64) := by
  induction T with
  | nil => rfl
  | cons p T ih =>
    simp only [pv, List.map_cons, get, lkp] at ih ⊢
    split
    · rfl
    · exact ih
theorem upd_pv (q v : Int) (T : As2) : upd q (.int .i64 v) (pv T) = pv (iup q v T) := by
  induction T with
  | nil => rfl
  | cons p T ih =>
    simp only [pv, List.map_cons, upd, iup] at ih ⊢
    split
    · rfl
    · rw [ih]; rfl
theorem del_pv (q : Int) (T : As2) : del q (pv T) = pv (idl q T) := by
  induction T with
  | nil => rfl
  | cons p T ih =>
    simp only [pv, List.map_cons, del, idl] at ih ⊢
    split
    · rfl
    · rw [ih]; rfl
theorem pv_keys (T : As2) : (pv T).map (·.1) = T.map (·.1) := by simp [pv]
theorem pv_length (T : As2) : (pv T).length = T.length := by simp [pv]
theorem lkp_iup (q v x : Int) (T : As2) : lkp x (iup q v T) = if q = x then some v else lkp x T := by
  induction T with
  | nil => simp only [iup, lkp]
  | cons p T ih =>
    simp only [iup]
    by_cases h : p.1 = q
    · rw [if_pos h]
      by_cases e : q = x
      · simp [lkp, e]
      · simp only [lkp, if_neg e]
        rw [if_neg (fun c => e (h.symm.trans c))]
    · rw [if_neg h]
      simp only [lkp, ih]
      by_cases e : p.1 = x
      · rw [if_pos e, if_neg (fun c => h (e.trans c.symm)), if_pos e]
      · simp only [if_neg e]
def MarksAt (nb : Nat) (long : Int) (T : As2) : HProp := SL.ex fun mb : Nat => seps [SL.blk nb 213 [.int .i64 long, .map (some mb)], mp (Value.int .u32) mb (pv T)]
section
variable {P : Program} {fid : Fm} {n : Nat} {post : Post} {k : List Item} {ρ : Env} {L L' r : List HProp}
theorem TK.openMk {nb : Nat} {long : Int} {T : As2} (hp : Pick L (MarksAt nb long T) r) (h : ∀ mb, TK P fid n post k ρ (SL.blk nb 213 [.int .i64 long, .map (some mb)] :: mp (Value.int .u32) mb (pv T) :: r)) : TK P fid n post k ρ L :=
  TK.exC hp fun mb => TK.sepsC Pick.head (h mb)
end
theorem mk_shut {nb mb : Nat} {long : Int} {T : As2} : ∀ h, seps [SL.blk nb 213 [.int .i64 long, .map (some mb)], mp (Value.int .u32) mb (pv T)] h → MarksAt nb long T h := fun h x => ⟨mb, x⟩
attribute [local irreducible] SL.TK SL.TO SL.TD SL.PV SL.Pick SL.Frm SL.Ent SL.Sub SL.EvAll SL.seps SL.sep SL.Cut SL.PutAt SL.blk SL.EvP SL.Fill SL.Src SL.EntD SL.own SL.ex SL.fact SL.orig
theorem mkNone_spec (nb mb : Nat) (long : Value) : Spec Tryz.prog 119 [.pointer (some ⟨nb, 0, none⟩)] [SL.blk nb 213 [long, .map (some mb)]] (fun r L => r = .bool false ∧ L = [SL.blk nb 213 [long, .map (some mb)]]) := by
  refine SL.Spec.of_TK Go.Proofs.Tryz.func119 rfl rfl SL.call119 rfl ?_
  repeat' (first | (refine SL.TO.is ?_; first | refine SL.TO.nil ?_ | (refine SL.TO.nilD ?_; simp only [SL.setB]) | refine SL.W.pass ?_ | refine SL.W.pass0 ?_ | (refine SL.W.pure ?_; first | refine SL.W.pv ?_ | refine SL.W.pv0 ?_ | refine SL.W.lenMp ?_) | (refine SL.W.loud ?_; first | refine SL.W.load ?_ | refine SL.W.loadA ?_ | refine SL.W.store ?_ | refine SL.W.storeA ?_ | (refine SL.W.box ?_; intro b) | (refine SL.W.alloc ?_; intro b) | (refine SL.W.buildSlice ?_; intro b) | (refine SL.W.append ?_; intro a cap) | refine SL.W.bytesToStr ?_ | refine SL.W.toIntC ?_ | (refine SL.W.makeSlice ?_; intro b) | refine SL.W.lookupOk ?_ | refine SL.W.lookup ?_ | (refine SL.W.makeMap ?_; intro b) | refine SL.W.mapUpdate ?_ | (refine SL.W.mapEntry ?_; intro stamp) | refine SL.W.entryStore ?_ | (refine SL.W.range ?_; intro it) | refine SL.W.delete ?_)) | (refine SL.TK.is ?_; first | refine SL.TK.seq ?_ | refine SL.TK.region ?_ | refine SL.TK.regionD SL.mixed (by simp only [SL.falses] <;> rfl) ?_ | refine SL.TK.block ?_ | refine SL.TK.inBlock ?_ | refine SL.TK.skip ?_ | refine SL.TK.scope ?_ | refine SL.TK.inScope ?_ | refine SL.TK.label ?_ | refine SL.W.exit ?_ | refine SL.W.condT ?_ | refine SL.W.condF ?_) | (refine SL.TD.is ?_; first | (refine SL.W.dfin ?_; simp only [SL.aps]) | refine SL.W.dpass ?_ | refine SL.W.dpure ?_ | refine SL.W.dload ?_ | refine SL.W.dloadA ?_ | refine SL.W.dfrz ?_ | (refine SL.W.dthaw ?_; simp only [SL.aps])) | ((first | refine SL.W.guardP (fun h => ?_) (fun h => ?_) | refine SL.W.condP (fun h => ?_) (fun h => ?_) | refine SL.W.dguardP (fun h => ?_) (fun h => ?_)) <;> (fail_if_success (have : h = trivial := rfl)) <;> (fail_if_success (have : h = not_false := rfl)) <;> first | contradiction | (exfalso; omega) | (exfalso; revert h; simp; done) | skip) | ((first | refine SL.W.guardB (fun h => ?_) (fun h => ?_) | refine SL.W.dguardB (fun h => ?_) (fun h => ?_)) <;> (fail_if_success (have : h = (rfl : true = true) := rfl)) <;> (fail_if_success (have : h = (rfl : false = false) := rfl))) | refine SL.W.condB (fun h => ?_) (fun h => ?_) | (refine SL.TD.is ?_; first | refine SL.W.done ?_ | refine SL.W.dtwo ?_ ?_ | refine SL.W.dthree ?_ ?_ ?_))
  all_goals exact SL.TK.retD Tryz.func119 (SL.Res.one rfl (by rfl)) ⟨rfl, rfl⟩ EntD.refl
theorem mkNew_spec (long : Int) : Spec Tryz.prog 138 [.int .i64 long] [] (fun r L => (long < 0 ∧ r = .tuple #[.pointer none, .int .i64 1] ∧ L = []) ∨ (0 ≤ long ∧ ∃ nb, r = .tuple #[.pointer (some ⟨nb, 0, none⟩), .int .i64 0] ∧ L = [MarksAt nb long []])) := by
  refine SL.Spec.of_TK Go.Proofs.Tryz.func138 rfl rfl SL.call138 rfl ?_
  repeat' (first | (refine SL.TO.is ?_; first | refine SL.TO.nil ?_ | (refine SL.TO.nilD ?_; simp only [SL.setB]) | refine SL.W.pass ?_ | refine SL.W.pass0 ?_ | (refine SL.W.pure ?_; first | refine SL.W.pv ?_ | refine SL.W.pv0 ?_ | refine SL.W.lenMp ?_) | (refine SL.W.loud ?_; first | refine SL.W.load ?_ | refine SL.W.loadA ?_ | refine SL.W.store ?_ | refine SL.W.storeA ?_ | (refine SL.W.box ?_; intro b) | (refine SL.W.alloc ?_; intro b) | (refine SL.W.buildSlice ?_; intro b) | (refine SL.W.append ?_; intro a cap) | refine SL.W.bytesToStr ?_ | refine SL.W.toIntC ?_ | (refine SL.W.makeSlice ?_; intro b) | refine SL.W.lookupOk ?_ | refine SL.W.lookup ?_ | (refine SL.W.makeMap ?_; intro b) | refine SL.W.mapUpdate ?_ | (refine SL.W.mapEntry ?_; intro stamp) | refine SL.W.entryStore ?_ | (refine SL.W.range ?_; intro it) | refine SL.W.delete ?_)) | (refine SL.TK.is ?_; first | refine SL.TK.seq ?_ | refine SL.TK.region ?_ | refine SL.TK.regionD SL.mixed (by simp only [SL.falses] <;> rfl) ?_ | refine SL.TK.block ?_ | refine SL.TK.inBlock ?_ | refine SL.TK.skip ?_ | refine SL.TK.scope ?_ | refine SL.TK.inScope ?_ | refine SL.TK.label ?_ | refine SL.W.exit ?_ | refine SL.W.condT ?_ | refine SL.W.condF ?_) | (refine SL.TD.is ?_; first | (refine SL.W.dfin ?_; simp only [SL.aps]) | refine SL.W.dpass ?_ | refine SL.W.dpure ?_ | refine SL.W.dload ?_ | refine SL.W.dloadA ?_ | refine SL.W.dfrz ?_ | (refine SL.W.dthaw ?_; simp only [SL.aps])) | ((first | refine SL.W.guardP (fun h => ?_) (fun h => ?_) | refine SL.W.condP (fun h => ?_) (fun h => ?_) | refine SL.W.dguardP (fun h => ?_) (fun h => ?_)) <;> (fail_if_success (have : h = trivial := rfl)) <;> (fail_if_success (have : h = not_false := rfl)) <;> first | contradiction | (exfalso; omega) | (exfalso; revert h; simp; done) | skip) | ((first | refine SL.W.guardB (fun h => ?_) (fun h => ?_) | refine SL.W.dguardB (fun h => ?_) (fun h => ?_)) <;> (fail_if_success (have : h = (rfl : true = true) := rfl)) <;> (fail_if_success (have : h = (rfl : false = false) := rfl))) | refine SL.W.condB (fun h => ?_) (fun h => ?_) | (refine SL.TD.is ?_; first | refine SL.W.done ?_ | refine SL.W.dtwo ?_ ?_ | refine SL.W.dthree ?_ ?_ ?_))
  · exact SL.TK.retD Tryz.func138 (SL.Res.two rfl (by rfl) (by rfl)) (.inl ⟨by assumption, rfl, rfl⟩) EntD.refl
  · refine SL.TK.retD Tryz.func138 (SL.Res.two rfl (by rfl) (by rfl)) (.inr ⟨by omega, _, rfl, rfl⟩) (EntD.frm (by first | ((repeat (first | exact SL.Frm.nil | exact SL.Frm.refl | (apply SL.Frm.cons; repeat (first | exact SL.Pick.head | apply SL.Pick.tail)))); done) | fail) mk_shut EntD.nil)
end SL
end
section
set_option linter.unusedVariables false
set_option linter.unusedSimpArgs false
set_option maxRecDepth 10000
namespace SL
open Go Go.Proofs Go.RowKit
attribute [local irreducible] SL.TK SL.TO SL.TD SL.PV SL.Pick SL.Frm SL.Ent SL.Sub SL.EvAll SL.seps SL.sep SL.Cut SL.PutAt SL.blk SL.EvP SL.Fill SL.Src SL.EntD SL.own SL.ex SL.fact SL.orig
end SL
end
section
set_option linter.unusedVariables false
set_option linter.unusedSimpArgs false
set_option maxRecDepth 10000
namespace SL
open Go Go.Proofs Go.RowKit
attribute [local irreducible] SL.TK SL.TO SL.TD SL.PV SL.Pick SL.Frm SL.Ent SL.Sub SL.EvAll SL.seps SL.sep SL.Cut SL.PutAt SL.blk SL.EvP SL.Fill SL.Src SL.EntD SL.own SL.ex SL.fact SL.orig
theorem mapsClone_ext (mb : Nat) (T : As2) : Ext Tryz.prog 52 [.iface 211 (.map (some mb))] [mp (Value.int .u32) mb (pv T)] (fun r L => ∃ b, r = .iface 211 (.map (some b)) ∧ L = [mp (Value.int .u32) b (pv T), mp (Value.int .u32) mb (pv T)]) :=
  Ext.clone Tryz.func52 (by kernel_rfl) (by kernel_rfl) (by kernel_rfl) (by kernel_rfl)
theorem clone_spec (mb : Nat) (T : As2) : Spec Tryz.prog 145 [.map (some mb)] [mp (Value.int .u32) mb (pv T)] (fun r L => ∃ b, r = .map (some b) ∧ L = [mp (Value.int .u32) b (pv T), mp (Value.int .u32) mb (pv T)]) := by
  have hE := Lib.hid (mapsClone_ext mb T)
  refine SL.Spec.of_TK Go.Proofs.Tryz.func145 rfl rfl SL.call145 rfl ?_
  repeat' (first | (refine SL.TO.is ?_; first | (refine SL.TO.door (o := ⟨_, .makeInterface _ _, _, _, _, _⟩) ?_; refine SL.W.pvn (PV.ifaceM (by rfl)) ?_) | (refine SL.TO.door (o := ⟨_, .typeAssert _ _ _ _, _, _, _, _⟩) ?_; refine SL.W.pvn (PV.assertM (by rfl)) ?_) | (refine SL.TO.door (o := ⟨_, .call ⟨.value (.func 52), _, _⟩, _, _, _, _⟩) ?_; first | (refine SL.W.callExt hE.out ?_; rintro _ _ ⟨b7, rfl, rfl⟩; try simp only [SL.aps])) | refine SL.TO.nil ?_ | (refine SL.TO.nilD ?_; simp only [SL.setB]) | refine SL.W.pass ?_ | refine SL.W.pass0 ?_ | (refine SL.W.pure ?_; first | refine SL.W.pv ?_ | refine SL.W.pv0 ?_ | refine SL.W.lenMp ?_) | (refine SL.W.loud ?_; first | refine SL.W.load ?_ | refine SL.W.loadA ?_ | refine SL.W.store ?_ | refine SL.W.storeA ?_ | (refine SL.W.box ?_; intro b) | (refine SL.W.alloc ?_; intro b) | (refine SL.W.buildSlice ?_; intro b) | (refine SL.W.append ?_; intro a cap) | refine SL.W.bytesToStr ?_ | refine SL.W.toIntC ?_ | (refine SL.W.makeSlice ?_; intro b) | refine SL.W.lookupOk ?_ | refine SL.W.lookup ?_ | (refine SL.W.makeMap ?_; intro b) | refine SL.W.mapUpdate ?_ | (refine SL.W.mapEntry ?_; intro stamp) | refine SL.W.entryStore ?_ | (refine SL.W.range ?_; intro it) | refine SL.W.delete ?_)) | (refine SL.TK.is ?_; first | refine SL.TK.seq ?_ | refine SL.TK.region ?_ | refine SL.TK.regionD SL.mixed (by simp only [SL.falses] <;> rfl) ?_ | refine SL.TK.block ?_ | refine SL.TK.inBlock ?_ | refine SL.TK.skip ?_ | refine SL.TK.scope ?_ | refine SL.TK.inScope ?_ | refine SL.TK.label ?_ | refine SL.W.exit ?_ | refine SL.W.condT ?_ | refine SL.W.condF ?_) | (refine SL.TD.is ?_; first | (refine SL.W.dfin ?_; simp only [SL.aps]) | refine SL.W.dpass ?_ | refine SL.W.dpure ?_ | refine SL.W.dload ?_ | refine SL.W.dloadA ?_ | refine SL.W.dfrz ?_ | (refine SL.W.dthaw ?_; simp only [SL.aps])) | ((first | refine SL.W.guardP (fun h => ?_) (fun h => ?_) | refine SL.W.condP (fun h => ?_) (fun h => ?_) | refine SL.W.dguardP (fun h => ?_) (fun h => ?_)) <;> (fail_if_success (have : h = trivial := rfl)) <;> (fail_if_success (have : h = not_false := rfl)) <;> first | contradiction | (exfalso; omega) | (exfalso; revert h; simp; done) | skip) | ((first | refine SL.W.guardB (fun h => ?_) (fun h => ?_) | refine SL.W.dguardB (fun h => ?_) (fun h => ?_)) <;> (fail_if_success (have : h = (rfl : true = true) := rfl)) <;> (fail_if_success (have : h = (rfl : false = false) := rfl))) | refine SL.W.condB (fun h => ?_) (fun h => ?_) | (refine SL.TD.is ?_; first | refine SL.W.done ?_ | refine SL.W.dtwo ?_ ?_ | refine SL.W.dthree ?_ ?_ ?_))
  all_goals exact SL.TK.retD Tryz.func145 (SL.Res.one rfl (by rfl)) ⟨_, rfl, rfl⟩ (EntD.cons (by first | ((repeat (first | exact SL.Pick.head | apply SL.Pick.tail)); done) | fail) (EntD.cons (by first | ((repeat (first | exact SL.Pick.head | apply SL.Pick.tail)); done) | fail) EntD.nil))
theorem mkCopy_spec (nb : Nat) (long : Int) (T : As2) : Spec Tryz.prog 109 [.pointer (some ⟨nb, 0, none⟩)] [MarksAt nb long T] (fun r L => ∃ cb, r = .pointer (some ⟨cb, 0, none⟩) ∧ L = [MarksAt cb long T, MarksAt nb long T]) := by
  refine SL.Spec.of_TK Go.Proofs.Tryz.func109 rfl rfl SL.call109 rfl ?_
  refine SL.TK.openMk (by first | ((repeat (first | exact SL.Pick.head | apply SL.Pick.tail)); done) | fail) (fun mb => ?_)
  repeat' (first | (refine SL.TO.is ?_; first | (refine SL.TO.door (o := ⟨_, .call ⟨.value (.func 119), _, _⟩, _, _, _, _⟩) ?_; first | (refine SL.W.call (mkNone_spec _ _ _) ?_; rintro _ _ ⟨rfl, rfl⟩; try simp only [SL.aps])) | (refine SL.TO.door (o := ⟨_, .call ⟨.value (.func 145), _, _⟩, _, _, _, _⟩) ?_; first | (refine SL.W.call (clone_spec _ _) ?_; rintro _ _ ⟨b8, rfl, rfl⟩; try simp only [SL.aps])) | refine SL.TO.nil ?_ | (refine SL.TO.nilD ?_; simp only [SL.setB]) | refine SL.W.pass ?_ | refine SL.W.pass0 ?_ | (refine SL.W.pure ?_; first | refine SL.W.pv ?_ | refine SL.W.pv0 ?_ | refine SL.W.lenMp ?_) | (refine SL.W.loud ?_; first | refine SL.W.load ?_ | refine SL.W.loadA ?_ | refine SL.W.store ?_ | refine SL.W.storeA ?_ | (refine SL.W.box ?_; intro b) | (refine SL.W.alloc ?_; intro b) | (refine SL.W.buildSlice ?_; intro b) | (refine SL.W.append ?_; intro a cap) | refine SL.W.bytesToStr ?_ | refine SL.W.toIntC ?_ | (refine SL.W.makeSlice ?_; intro b) | refine SL.W.lookupOk ?_ | refine SL.W.lookup ?_ | (refine SL.W.makeMap ?_; intro b) | refine SL.W.mapUpdate ?_ | (refine SL.W.mapEntry ?_; intro stamp) | refine SL.W.entryStore ?_ | (refine SL.W.range ?_; intro it) | refine SL.W.delete ?_)) | (refine SL.TK.is ?_; first | refine SL.TK.seq ?_ | refine SL.TK.region ?_ | refine SL.TK.regionD SL.mixed (by simp only [SL.falses] <;> rfl) ?_ | refine SL.TK.block ?_ | refine SL.TK.inBlock ?_ | refine SL.TK.skip ?_ | refine SL.TK.scope ?_ | refine SL.TK.inScope ?_ | refine SL.TK.label ?_ | refine SL.W.exit ?_ | refine SL.W.condT ?_ | refine SL.W.condF ?_) | (refine SL.TD.is ?_; first | (refine SL.W.dfin ?_; simp only [SL.aps]) | refine SL.W.dpass ?_ | refine SL.W.dpure ?_ | refine SL.W.dload ?_ | refine SL.W.dloadA ?_ | refine SL.W.dfrz ?_ | (refine SL.W.dthaw ?_; simp only [SL.aps])) | ((first | refine SL.W.guardP (fun h => ?_) (fun h => ?_) | refine SL.W.condP (fun h => ?_) (fun h => ?_) | refine SL.W.dguardP (fun h => ?_) (fun h => ?_)) <;> (fail_if_success (have : h = trivial := rfl)) <;> (fail_if_success (have : h = not_false := rfl)) <;> first | contradiction | (exfalso; omega) | (exfalso; revert h; simp; done) | skip) | ((first | refine SL.W.guardB (fun h => ?_) (fun h => ?_) | refine SL.W.dguardB (fun h => ?_) (fun h => ?_)) <;> (fail_if_success (have : h = (rfl : true = true) := rfl)) <;> (fail_if_success (have : h = (rfl : false = false) := rfl))) | refine SL.W.condB (fun h => ?_) (fun h => ?_) | (refine SL.TD.is ?_; first | refine SL.W.done ?_ | refine SL.W.dtwo ?_ ?_ | refine SL.W.dthree ?_ ?_ ?_))
  all_goals exact SL.TK.retD Tryz.func109 (SL.Res.one rfl (by rfl)) ⟨_, rfl, rfl⟩ (EntD.frm (by first | ((repeat (first | exact SL.Frm.nil | exact SL.Frm.refl | (apply SL.Frm.cons; repeat (first | exact SL.Pick.head | apply SL.Pick.tail)))); done) | fail) mk_shut (EntD.frm (by first | ((repeat (first | exact SL.Frm.nil | exact SL.Frm.refl | (apply SL.Frm.cons; repeat (first | exact SL.Pick.head | apply SL.Pick.tail)))); done) | fail) mk_shut EntD.nil))
end SL
end
section
set_option linter.unusedVariables false
set_option linter.unusedSimpArgs false
namespace SL
open Go
def RO (g : Hp) : HProp := fun h => h = g
def HLe (g g' : Hp) : Prop := ∀ b o, g b = some o → g' b = some o
theorem HLe.refl (g : Hp) : HLe g g := fun _ _ h => h
theorem HLe.trans {a b c : Hp} (h : HLe a b) (k : HLe b c) : HLe a c := fun x o e => k x o (h x o e)
def cellG (g : Hp) (q : Addr) : Option Value := match g q.block with
  | some (.cells c _ _) => if q.spot.isSome then none else c[q.off]?
  | _ => none
theorem cellG_le {g g' : Hp} {q : Addr} {v : Value} (h : HLe g g') (e : cellG g q = some v) : cellG g' q = some v := by
  unfold cellG at e ⊢
  cases hb : g q.block with
  | none => simp [hb] at e
  | some o => rw [h _ _ hb]; rw [hb] at e; exact e
def RdG (g : Hp) (a : Option Addr) (cs : List Value) : Prop := (a = none → cs = []) ∧ ∀ q, a = some q → ∀ (j : Nat) x, cs[j]? = some x → cellG g (q.add j) = some x
theorem RdG.le {g g' : Hp} {a : Option Addr} {cs : List Value} (h : HLe g g') (e : RdG g a cs) : RdG g' a cs := ⟨e.1, fun q hq j x hx => cellG_le h (e.2 q hq j x hx)⟩
theorem RdG.none {g : Hp} : RdG g none [] := ⟨fun _ => rfl, fun _ h => by cases h⟩
theorem join_le_right {h1 h2 : Hp} (d : Disj h1 h2) : HLe h2 (join h1 h2) := by
  intro b o e
  unfold join
  rcases d b with c | c
  · rw [c]; exact e
  · rw [c] at e; cases e
theorem join_le_left {h1 h2 : Hp} : HLe h1 (join h1 h2) := by
  intro b o e
  unfold join
  rw [e]
theorem ro_own {e sz : Nat} {a : Option Addr} {n cap : Nat} {cs : List Value} {g h : Hp} (hs : seps [own e sz a n cap cs, RO g] h) : ∃ g', HLe g g' ∧ RdG g' a cs ∧ RO g' h := by
  obtain ⟨h1, h2, d, rfl, ho, hr⟩ := hs
  obtain ⟨h3, h4, d', rfl, hg, he⟩ := hr
  have hg' : h3 = g := hg
  subst hg'
  have e34 : join h3 h4 = h3 := by
    funext b
    unfold join
    cases hb : h3 b with
    | none => exact he b
    | some o => simp
  rw [e34] at d ⊢
  refine ⟨join h1 h3, join_le_right d, ?_, rfl⟩
  rcases ho with ⟨rfl, rfl, rfl, rfl, _⟩ | ⟨b, extra, rfl, e1, e2, e3, hb⟩
  · exact RdG.none
  · refine ⟨fun c => (by cases c), fun q hq j x hx => ?_⟩
    cases hq
    have hb0 : h1 b = some (.cells (cs ++ extra).toArray e (0, 0)) := by have := hb b; simpa using this
    have ha : (⟨b, 0, Option.none⟩ : Addr).add j = ⟨b, j, Option.none⟩ := by unfold Addr.add; split <;> simp_all
    have hlt : j < cs.length := (List.getElem?_eq_some_iff.1 hx).1
    have hx' : (cs ++ extra)[j]? = some x := by rw [List.getElem?_append_left hlt]; exact hx
    unfold cellG
    rw [ha]
    simp only [join_le_left _ _ hb0]
    simpa using hx'
def HE : Hp := fun _ => none
theorem ro_new {L : List HProp} : EntD L (RO HE :: L) := by
  refine EntD.of_ent fun h x => ⟨HE, h, fun _ => .inl rfl, ?_, rfl, x⟩
  funext b
  rfl
variable {w0 w : World} {L L' r : List HProp} {F : HProp}
theorem Sat.readRO {g : Hp} (s : Sat w0 L F w) (k : Pick L (RO g) r) {b : Nat} {o : Obj} (hb : g b = some o) : w.heap[b]? = some o := by
  obtain ⟨h, hs, hsep⟩ := s.heap
  obtain ⟨h1, h2, d, rfl, a, _⟩ := hsep
  obtain ⟨h3, h4, d', rfl, p, _⟩ := (k _).1 a
  have p' : h3 = g := p
  subst p'
  refine hs b o ?_
  simp [join, hb]
theorem Sat.cellRO {g : Hp} (s : Sat w0 L F w) (k : Pick L (RO g) r) {q : Addr} {v : Value} (hv : cellG g q = some v) : w.cell? q = some v := by
  unfold cellG at hv
  unfold World.cell?
  cases hb : g q.block with
  | none => simp [hb] at hv
  | some o => rw [s.readRO k hb]; rw [hb] at hv; exact hv
theorem Src.ro {P : Program} {g : Hp} {sz m c : Nat} {a : Option Addr} {new : List Value} (k : Pick L (RO g) r) (hl : new.length = m * sz) (hn : a = none → m = 0) (h : RdG g a new) : Src P L sz m (.slice a m c) new := by
  cases a with
  | none =>
    have hm := hn rfl
    subst hm
    have : new = [] := by simpa using hl
    subst this
    exact Src.nil
  | some q =>
    refine ⟨hl, fun _ _ w s => ⟨?_, by simp [Builtin.lenOf]⟩⟩
    simp only [Builtin.firstCells]
    rw [← hl]
    exact run_loadCells_list w _ new fun j x hj => s.cellRO k (h.2 q rfl j x hj)
theorem Rd.ro {g : Hp} {a : Option Addr} {cap : Nat} {bs : List UInt8} (h : RdG g a (bs.map byteV)) : Rd (RO g) a cap bs :=
  ⟨fun e => by have := h.1 e; simpa using this, fun P L r k => Src.ro k (by simp) (fun e => by have := h.1 e; simp at this; simp [this]) h⟩
theorem Src.zero {P : Program} {sz c : Nat} {a : Option Addr} : Src P L sz 0 (.slice a 0 c) [] := by
  cases a with
  | none => exact Src.nil
  | some q =>
    refine ⟨by simp, fun _ _ w s => ⟨?_, by simp [Builtin.lenOf]⟩⟩
    simp only [Builtin.firstCells]
    rw [Nat.zero_mul]
    exact run_loadCells_list w _ [] fun j x hj => by simp at hj
section
variable {P : Program} {fid : Fm} {n : Nat} {post : Post} {k : List Item} {ρ : Env} {ops rest : List Oper} {ty : TypeId} {pos : String} {af : Array Edge} {g : Option (Nat × Bool)} {sf : Option (List Bool × List HProp)} {d : Nat}
end
def ownZ (e sz : Nat) (a : Option Addr) (n cap : Nat) (cs : List Value) : HProp := fun h => (n = 0 ∧ cap = 0 ∧ cs = [] ∧ emp h) ∨ own e sz a n cap cs h
theorem Sat.casesZ {e sz n cap : Nat} {a : Option Addr} {cs : List Value} (s : Sat w0 L F w) (k : Pick L (ownZ e sz a n cap cs) r) : (n = 0 ∧ cap = 0 ∧ cs = [] ∧ Sat w0 r F w) ∨ Sat w0 (own e sz a n cap cs :: r) F w := by
  obtain ⟨h, hs, hsep⟩ := s.heap
  obtain ⟨h1, h2, d, rfl, x, f⟩ := hsep
  obtain ⟨h3, h4, d', rfl, p, q⟩ := (k _).1 x
  rcases p with ⟨rfl, rfl, rfl, he⟩ | p
  · left
    rw [emp_join he] at d hs
    exact ⟨rfl, rfl, rfl, s.os, s.tape, s.out, _, hs, h4, h2, d, rfl, q, f⟩
  · right
    exact ⟨s.os, s.tape, s.out, _, hs, _, h2, d, rfl, ⟨h3, h4, d', rfl, p, q⟩, f⟩
section
variable {P : Program} {fid : Fm} {n : Nat} {post : Post} {k : List Item} {ρ : Env} {ops : List Oper} {sf : Option (List Bool × List HProp)}
theorem TO.casesZ {e sz m cap : Nat} {a : Option Addr} {cs : List Value} {l : List Oper} (hp : Pick L (ownZ e sz a m cap cs) r) (h1 : m = 0 → cap = 0 → cs = [] → TO P fid n post ops l sf k ρ r) (h2 : TO P fid n post ops l sf k ρ (own e sz a m cap cs :: r)) :
    TO P fid n post ops l sf k ρ L := fun w0 F a' w is s gr st hi hs => by
  rcases st.casesZ hp with ⟨e1, e2, e3, s'⟩ | s'
  · exact h1 e1 e2 e3 w0 F a' w is s gr s' hi hs
  · exact h2 w0 F a' w is s gr s' hi hs
theorem TK.casesZ {e sz m cap : Nat} {a : Option Addr} {cs : List Value} (hp : Pick L (ownZ e sz a m cap cs) r) (h1 : m = 0 → cap = 0 → cs = [] → TK P fid n post k ρ r) (h2 : TK P fid n post k ρ (own e sz a m cap cs :: r)) :
    TK P fid n post k ρ L := fun w0 F a' w css gr st => by
  rcases st.casesZ hp with ⟨e1, e2, e3, s'⟩ | s'
  · exact h1 e1 e2 e3 w0 F a' w css gr s'
  · exact h2 w0 F a' w css gr s'
end
section
variable {P : Program} {n : Nat} {ρ : Env} {ty : TypeId} {pos : String} {af : Array Edge} {g : Option (Nat × Bool)}
theorem PV.andNot {dst : Option Nat} {x y : Operand} {kd : IntKind} {i j r : Int} {t u : TypeId} (hx : ev ρ x = some (.int kd i)) (hy : ev ρ y = some (.int kd j)) (hr : andNotI kd i j = r) : PV P n ρ ⟨dst, .binOp .andNot t x y u, ty, pos, af, g⟩ (.int kd r) := fun a w gr => by unfold andNotI at hr; simp [execOp, eqGuard, binOp, gr.eval hx, gr.eval hy, Op.intBits, ← hr]
end
theorem or128 (n : Int) : orI .u8 (IntKind.u8.wrap n) 128 = (((n % 128).toNat + 128 : Nat) : Int) := by
  have key : ∀ x : Fin 256, orI .u8 ((x : Nat) : Int) 128 = (((x : Nat) % 128 + 128 : Nat) : Int) := by decide +kernel
  have hw : IntKind.u8.wrap n = (((n % 256).toNat : Nat) : Int) := by
    show n % 256 = _
    omega
  have := key ⟨(n % 256).toNat, by omega⟩
  rw [hw, this]
  simp only
  omega
theorem andNot128 (c : UInt8) : andNotI .u8 (c.toNat : Int) 128 = ((c.toNat % 128 : Nat) : Int) := by
  have key : ∀ x : Fin 256, andNotI .u8 ((x : Nat) : Int) 128 = (((x : Nat) % 128 : Nat) : Int) := by decide +kernel
  exact key ⟨c.toNat, UInt8.toNat_lt c⟩
theorem shl7 {c i : Nat} (hi : i ≤ 9) (h : c * 128 ^ i < 18446744073709551616) : shlI .u64 (c : Int) (7 * (i : Int)) = ((c * 128 ^ i : Nat) : Int) := by
  unfold shlI
  have e : min (7 * (i : Int)).toNat IntKind.u64.bits = 7 * i := by simp only [IntKind.bits]; omega
  rw [e]
  have h128 : (128 : Nat) ^ i = 2 ^ (7 * i) := by rw [Nat.pow_mul]
  have e2 : (c : Int) * 2 ^ (7 * i) = ((c * 128 ^ i : Nat) : Int) := by
    rw [h128, Int.natCast_mul, Int.natCast_pow]
    rfl
  rw [e2]
  obtain ⟨m, hm⟩ : ∃ m, m = c * 128 ^ i := ⟨_, rfl⟩
  rw [← hm] at h ⊢
  exact wrap_u64 (by omega)
theorem or_add {a c i : Nat} (ha : a < 128 ^ i) (h : a + c * 128 ^ i < 18446744073709551616) : orI .u64 (a : Int) ((c * 128 ^ i : Nat) : Int) = ((a + c * 128 ^ i : Nat) : Int) := by
  unfold orI
  have h128 : (128 : Nat) ^ i = 2 ^ (7 * i) := by rw [Nat.pow_mul]
  obtain ⟨m, hm⟩ : ∃ m, m = c * 128 ^ i := ⟨_, rfl⟩
  have hor : a ||| m = a + m := by
    rw [h128] at ha hm
    rw [hm, Nat.mul_comm, Nat.or_comm, ← Nat.two_pow_add_eq_or_of_lt ha, Nat.add_comm]
  rw [← hm] at h ⊢
  have e : (BitVec.ofInt IntKind.u64.bits (a : Int) ||| BitVec.ofInt IntKind.u64.bits (m : Int)).toNat = a + m := by
    rw [BitVec.toNat_or]
    have e1 : ∀ x : Nat, x < 18446744073709551616 → (BitVec.ofInt IntKind.u64.bits (x : Int)).toNat = x := by
      intro x hx
      simp only [BitVec.toNat_ofInt, IntKind.bits]
      omega
    rw [e1 _ (by omega), e1 _ (by omega), hor]
  rw [e]
  clear e hor hm h128 ha
  exact wrap_u64 (by omega)
theorem shr7 (m : Nat) : shrI .u64 (m : Int) 7 = ((m / 128 : Nat) : Int) := by
  unfold shrI
  have e : min (7 : Int).toNat IntKind.u64.bits = 7 := by decide
  rw [e, Int.fdiv_eq_ediv_of_nonneg _ (by decide)]
  norm_cast
structure RdB (X : HProp) (a : Option Addr) (bs : List UInt8) : Prop where
  none_ : a = none → bs = []
  at_ : ∀ q, a = some q → RdA X q (bs.map byteV)
theorem RdA.at {X : HProp} {q : Addr} {vs : List Value} {j : Nat} {v : Value} (h : RdA X q vs) (hv : vs[j]? = some v) : RdA X (q.add j) [v] := fun w0 L r F w s k i x hx => by
  have hi : i = 0 := by
    have := (List.getElem?_eq_some_iff.1 hx).1
    simp at this; omega
  subst hi
  simp at hx
  subst hx
  rw [add_add]
  exact h w0 L r F w s k j v hv
theorem RdA.ro {g : Hp} {q : Addr} {vs : List Value} (h : RdG g (some q) vs) : RdA (RO g) q vs := fun w0 L r F w s k j v hv => s.cellRO k (h.2 q rfl j v hv)
theorem RdB.ro {g : Hp} {a : Option Addr} {bs : List UInt8} (h : RdG g a (bs.map byteV)) : RdB (RO g) a bs :=
  ⟨fun e => by have := h.1 e; simpa using this, fun q hq => RdA.ro (by rw [← hq]; exact h)⟩
theorem RdB.rd {X : HProp} {a : Option Addr} {cap : Nat} {bs : List UInt8} (h : RdB X a bs) : Rd X a cap bs :=
  ⟨h.none_, fun P L r k => by
    cases a with
    | none =>
      have := h.none_ rfl
      subst this
      exact Src.nil
    | some q =>
      refine ⟨by simp, fun w0 F w s => ⟨?_, by simp [Builtin.lenOf]⟩⟩
      simp only [Builtin.firstCells]
      have e : bs.length * 1 = (bs.map byteV).length := by simp
      rw [e]
      exact run_loadCells_list w _ _ fun j x hj => h.at_ q rfl w0 L r F w s k j x hj⟩
theorem RdB.byte {X : HProp} {q : Addr} {bs : List UInt8} {i : Nat} (h : RdB X (some q) bs) (hi : i < bs.length) : RdA X (q.add (i * 1)) [byteV bs[i]] := by
  rw [Nat.mul_one]
  exact (h.at_ q rfl).at (by simp [hi])
theorem RdB.drop {X : HProp} {a : Option Addr} {bs : List UInt8} (h : RdB X a bs) (s : Nat) {a' : Option Addr} (ha : bs.drop s = [] ∨ a' = a.map (·.add s)) (hn : a' = none → a = none) : RdB X a' (bs.drop s) := by
  refine ⟨fun e => by rw [h.none_ (hn e)]; simp, fun q hq => ?_⟩
  rcases ha with ha | ha
  · rw [ha]
    intro w0 L r F w st k j v hv
    simp at hv
  · cases a with
    | none => subst hq; simp at ha
    | some p =>
      subst hq
      simp at ha
      subst ha
      intro w0 L r F w st k j v hv
      rw [add_add]
      exact h.at_ p rfl w0 L r F w st k (s + j) v (by simpa [List.getElem?_drop] using hv)
theorem RdB.take {X : HProp} {a : Option Addr} {bs : List UInt8} (h : RdB X a bs) (s : Nat) : RdB X a (bs.take s) := by
  refine ⟨fun e => by rw [h.none_ e]; simp, fun q hq w0 L r F w st k j v hv => ?_⟩
  refine h.at_ q hq w0 L r F w st k j v ?_
  rw [List.map_take, List.getElem?_take] at hv
  split at hv
  · exact hv
  · cases hv
theorem RdB.own {e n cap : Nat} {a : Option Addr} {bs : List UInt8} (h0 : a = none → bs = []) : RdB (SL.own e 1 a n cap (bs.map byteV)) a bs := by
  refine ⟨h0, fun q hq w0 L r F w s k j v hj => ?_⟩
  rcases s.owned (P := default) k with ⟨h1, _⟩ | ⟨b', extra, h1, h2, h3, h4, s'⟩
  · rw [hq] at h1; cases h1
  · rw [hq] at h1
    cases h1
    have ha : (⟨b', 0, Option.none⟩ : Addr).add j = ⟨b', j, Option.none⟩ := by unfold Addr.add; split <;> simp_all
    rw [ha]
    refine s'.cell Pick.head ?_
    have : j < (bs.map byteV).length := (List.getElem?_eq_some_iff.1 hj).1
    rw [List.getElem?_append_left this]
    exact hj
theorem RdB.orig {W : World} {a : Option Addr} {bs : List UInt8} (h0 : a = none → bs = []) (h : ∀ q, a = some q → ∀ (j : Nat) x, bs[j]? = some x → W.cell? (q.add j) = some (byteV x)) : RdB (SL.orig W) a bs :=
  ⟨h0, fun q hq => RdA.orig fun j v hj => by
    simp only [List.getElem?_map, Option.map_eq_some_iff] at hj
    obtain ⟨x, h1, rfl⟩ := hj
    exact h q hq j x h1⟩
theorem bytes_one (bs : List UInt8) : ∀ v ∈ bs.map byteV, v.oneCell' = true := by
  intro v hv
  simp only [List.mem_map] at hv
  obtain ⟨x, _, rfl⟩ := hv
  rfl
end SL
end
section
set_option linter.unusedVariables false
set_option linter.unusedSimpArgs false
set_option maxRecDepth 10000
namespace SL
open Go Go.Proofs Go.RowKit
theorem modify_set {α : Type} (a : Array α) (i : Nat) (f : α → α) (x : α) (h : a[i]? = some x) : a.modify i f = a.setIfInBounds i (f x) := by
  apply Array.ext
  · simp
  · intro j h1 h2
    rw [Array.getElem_modify, Array.getElem_setIfInBounds]
    split
    · rename_i e
      subst e
      have hi : i < a.size := by simpa using h1
      rw [Array.getElem?_eq_getElem hi] at h
      cases h
      rfl
    · rfl
def strV (bs : List UInt8) : Value := .string (strOf bs)
theorem strOf_beq (a b : List UInt8) : (strOf a == strOf b) = decide (a = b) := by
  show (a.toArray == b.toArray) = _
  by_cases h : a = b
  · subst h; simp
  · rw [decide_eq_false h]
    exact beq_eq_false_iff_ne.2 fun c => h (by simpa using congrArg Array.toList c)
theorem findNow_str {P : Program} (k : List UInt8) : ∀ (l : List (List UInt8 × Value)) (bs : List Nat) (i : Nat), bs.length = l.length →
    Instr.findNow .string (strV k) (ents strV l bs) i = some (fnd k l i)
  | [], [], i, _ => rfl
  | p :: l, b :: bs, i, h => by
    simp only [ents, Instr.findNow, strV, Instr.sameNow, fnd]
    by_cases e : p.1 = k
    · rw [e, strOf_beq, decide_eq_true rfl]; simp
    · have : (strOf k == strOf p.1) = false := by rw [strOf_beq]; exact decide_eq_false fun c => e c.symm
      rw [this, if_neg e]
      exact findNow_str (P := P) k l bs (i + 1) (by simpa using h)
  | [], b :: bs, _, h => by simp at h
  | p :: l, [], _, h => by simp at h
theorem TKy.str {P : Program} {kt : Nat} (h : P.underlying kt = some .string) : TKy P kt (List UInt8) strV :=
  ⟨fun e k w => by
    show (Instr.checkKey e (9999 + 1) kt (.string (strOf k))).run P w = _
    generalize 9999 = m
    simp only [Instr.checkKey, Sem.run_bind, run_und h, Go.Result.andThen_ok, Sem.run_pure],
   fun dec w k l bs hl => by
    have hd : dec = instDecidableEqList := Subsingleton.elim _ _
    subst hd
    simp only [Instr.findKey, Sem.run_bind, run_und h, Go.Result.andThen_ok, findNow_str (P := P) k l bs 0 hl, Sem.run_pure],
   fun k => by
    show (strOf k == strOf k) = true
    rw [strOf_beq, decide_eq_true rfl]⟩
section
variable {P : Program} {fid : Fm} {n : Nat} {post : Post} {k : List Item} {ρ : Env} {L r : List HProp} {ops rest : List Oper} {ty : TypeId} {pos : String} {af : Array Edge} {g : Option (Nat × Bool)} {sf : Option (List Bool × List HProp)} {d : Nat}
theorem TO.strBytes {x : Operand} {s t e : Nat} {bs : List UInt8} (hs : P.underlying s = some .string) (ht : P.underlying t = some (.slice e)) (hu : P.underlying e = some (.int .u8)) (hw : wants ops ρ g = some true) (hd : Nat.blt d n = true)
    (hx : ev ρ x = some (strV bs)) (h : ∀ (b cap : Nat) (G : Hp), RdG G (some ⟨b, 0, none⟩) (bs.map byteV) → bs.length ≤ cap → TO P fid n post ops rest sf k ((d, .slice (some ⟨b, 0, none⟩) bs.length cap) :: ρ) (RO G :: L)) :
    TO P fid n post ops (⟨some d, .convert s t x, ty, pos, af, g⟩ :: rest) sf k ρ L :=
  TO.val hw hd fun w0 F act w gr st => by
    have hsz : (strOf bs).size = bs.length := by simp [strOf, ByteArray.size]
    obtain ⟨nc, hnce⟩ : ∃ nc, nc = (Question.appendCap bs.length 0 e).cut (w.tape w.drawn (.appendCap bs.length 0 e)) := ⟨_, rfl⟩
    have hnc : bs.length ≤ nc := by rw [hnce]; exact Nat.le_add_right _ _
    let cs : List Value := bs.map byteV ++ List.replicate (nc - bs.length) (Value.int .u8 0)
    have hl : cs.length = nc := by simp [cs]; omega
    let o : Obj := .cells cs.toArray e (0, 0)
    let o' : Obj := .cells cs.toArray e (nc, nc + 1)
    have st1 := (st.drawn (w.drawn + 1)).new (o := o)
    let w1 : World := { w with drawn := w.drawn + 1, heap := w.heap.push o }
    have hr : w1.heap[w.heap.size]? = some o := by simp [w1]
    have hsh : w1.shape? w.heap.size = some (e, nc) := by
      show (match w1.heap[w.heap.size]? with | some (.cells cs T _) => some (T, cs.size) | _ => none) = _
      rw [hr]; simp [o, hl]
    have hfz : w1.freeze ⟨w.heap.size, nc, none⟩ 1 = { w1 with heap := w1.heap.setIfInBounds w.heap.size o' } := by
      unfold World.freeze
      rw [if_neg (by decide)]
      rw [modify_set _ _ _ _ hr]
      rfl
    have st2 := st1.write (o' := o') Pick.head
    let G : Hp := fun b' => if b' = w.heap.size then some o' else none
    refine ⟨.slice (some ⟨w.heap.size, 0, none⟩) bs.length nc, RO G :: L, { w1 with heap := w1.heap.setIfInBounds w.heap.size o' }, ?_, st2.map (fun hp x => sep_mono (fun h1 y => ?_) (fun _ x => x) x), h _ nc G ⟨fun c => (by cases c), fun q hq j x hx => ?_⟩ hnc⟩
    · have hforced : Question.forced (.appendCap bs.length 0 e) = false := rfl
      have e1 : ((strOf bs).data.map fun b => Value.int .u8 b.toNat) ++ Array.replicate (nc - bs.length) (Value.int .u8 0) = cs.toArray := by
        apply Array.ext'
        simp [cs, strOf, byteV]
      simp [execOp, gr.eval hx, convert, strV, run_und hs, run_und ht, run_und hu, Conv.stringToBytes, hsz, hforced]
      rw [← hnce, e1]
      have hnew : Sem.run P (newRow e cs.toArray) w.drew = .ok ⟨w.heap.size, 0, none⟩ w1 := rfl
      have hms : Sem.run P (markStringish ⟨w.heap.size, 0, none⟩) w1 = .ok () { w1 with heap := w1.heap.setIfInBounds w.heap.size o' } := by
        simp [markStringish, hsh]
        exact hfz
      simp [hnew, hms]
    · show h1 = G
      funext b'
      exact y b'
    · cases hq
      have ha : (⟨w.heap.size, 0, none⟩ : Addr).add j = ⟨w.heap.size, j, none⟩ := by unfold Addr.add; split <;> simp_all
      have hlj : j < (bs.map byteV).length := (List.getElem?_eq_some_iff.1 hx).1
      unfold cellG
      rw [ha]
      simp only [G, o']
      have : cs[j]? = some x := by rw [List.getElem?_append_left hlj]; exact hx
      simpa using this
end
section
variable {P : Program} {n : Nat} {ρ : Env} {ty : TypeId} {pos : String} {af : Array Edge} {g : Option (Nat × Bool)}
theorem PV.lenStr {dst : Option Nat} {x : Operand} {t : Nat} {bs : List UInt8} (hu : P.underlying t = some .string) (hx : ev ρ x = some (strV bs)) : PV P n ρ ⟨dst, .call ⟨.builtin .len, [x].toArray, [t].toArray⟩, ty, pos, af, g⟩ (.int .i64 bs.length) := fun a w gr => by
  have hsz : (strOf bs).size = bs.length := by simp [strOf, ByteArray.size]
  simp [execOp, resolve, invoke, builtin, gr.eval hx, strV, Builtin.len_, run_und hu, goInt, hsz]
theorem PV.neS {dst : Option Nat} {x y : Operand} {a b : List UInt8} {t u : TypeId} (hx : ev ρ x = some (strV a)) (hy : ev ρ y = some (strV b)) :
    PV P n ρ ⟨dst, .binOp .neq t x y u, ty, pos, af, g⟩ (.bool (decide (¬ a = b))) := fun a' w gr => by
  simp [execOp, eqGuard, binOp, gr.eval hx, gr.eval hy, Op.stringOp, strV, strOf_toList]
  by_cases h : a = b <;> simp [h]
end
section
variable {P : Program} {fid : Fm} {n : Nat} {post : Post} {k : List Item} {ρ : Env} {L : List HProp}
theorem TK.enter {c : Code} (h : TK P fid n post (.code c :: .inLoop c :: k) ρ L) : TK P fid n post (.code (.loop c) :: k) ρ L := TK.step (fun _ _ _ _ _ _ _ => stepR_loop) h
end
end SL
end
section
set_option linter.unusedVariables false
set_option linter.unusedSimpArgs false
set_option maxRecDepth 10000
namespace SL
open Go Go.Proofs Go.RowKit
def tabC (first second pieces : Value) (long : Int) : List Value := [first, second, pieces, .int .i64 long, .bool true]
def TabE (tb : Nat) : HProp := SL.blk tb 189 (tabC (.slice none 0 0) (.slice none 0 0) (.slice none 0 0) 0)
def PastE (pb : Nat) : HProp := SL.ex fun p : Option Addr × Nat => seps [SL.blk pb 201 [.int .u64 0, .slice none 0 0, .slice p.1 1 p.2, .bool true], own 3 1 p.1 1 p.2 [.int .i64 0]]
theorem pastE_shut {pb c : Nat} {a : Option Addr} : ∀ h, seps [SL.blk pb 201 [.int .u64 0, .slice none 0 0, .slice a 1 c, .bool true], own 3 1 a 1 c [.int .i64 0]] h → PastE pb h := fun h x => ⟨(a, c), x⟩
section
variable {P : Program} {fid : Fm} {n : Nat} {post : Post} {k : List Item} {ρ : Env} {L L' r : List HProp}
theorem TK.openPE {pb : Nat} (hp : Pick L (PastE pb) r) (h : ∀ a c, TK P fid n post k ρ (SL.blk pb 201 [.int .u64 0, .slice none 0 0, .slice a 1 c, .bool true] :: own 3 1 a 1 c [.int .i64 0] :: r)) : TK P fid n post k ρ L :=
  TK.exC hp fun p => TK.sepsC Pick.head (h p.1 p.2)
end
attribute [local irreducible] SL.TK SL.TO SL.TD SL.PV SL.Pick SL.Frm SL.Ent SL.Sub SL.EvAll SL.seps SL.sep SL.Cut SL.PutAt SL.blk SL.EvP SL.Fill SL.Src SL.EntD SL.own SL.ex SL.fact SL.orig
theorem chClone_nil : Spec Tryz.prog 141 [.slice none 0 0] [] (fun r L => r = .slice none 0 0 ∧ L = []) := by
  refine SL.Spec.of_TK Go.Proofs.Tryz.func141 rfl rfl SL.call141 rfl ?_
  repeat' (first | (refine SL.TO.is ?_; first | (refine SL.W.quick ?_; first | refine SL.W.pass ?_ | refine SL.W.pv ?_ | refine SL.W.pv0 ?_) | refine SL.TO.nil ?_ | (refine SL.TO.nilD ?_; simp only [SL.setB]) | refine SL.W.pass ?_ | refine SL.W.pass0 ?_ | (refine SL.W.pure ?_; first | refine SL.W.pv ?_ | refine SL.W.pv0 ?_) | (refine SL.W.loud ?_; first | refine SL.W.load ?_ | refine SL.W.loadA ?_ | refine SL.W.store ?_ | refine SL.W.storeA ?_ | (refine SL.W.box ?_; intro b) | (refine SL.W.alloc ?_; intro b) | (refine SL.W.buildSlice ?_; intro b) | (refine SL.W.append ?_; intro a cap) | refine SL.W.bytesToStr ?_ | refine SL.W.toIntC ?_ | (refine SL.W.makeSlice ?_; intro b))) | (refine SL.TK.is ?_; first | refine SL.TK.seq ?_ | refine SL.TK.region ?_ | refine SL.TK.regionD SL.mixed (by simp only [SL.falses] <;> rfl) ?_ | refine SL.TK.block ?_ | refine SL.TK.inBlock ?_ | refine SL.TK.skip ?_ | refine SL.TK.scope ?_ | refine SL.TK.inScope ?_ | refine SL.TK.label ?_ | (refine SL.TK.isExit ?_; refine SL.W.exit ?_) | refine SL.W.condT ?_ | refine SL.W.condF ?_) | (refine SL.TD.is ?_; first | (refine SL.W.dfin ?_; simp only [SL.aps]) | refine SL.W.dpass ?_ | refine SL.W.dpure ?_ | refine SL.W.dload ?_ | refine SL.W.dloadA ?_ | refine SL.W.dfrz ?_ | (refine SL.W.dthaw ?_; simp only [SL.aps])) | ((first | refine SL.W.guardP (fun h => ?_) (fun h => ?_) | refine SL.W.condP (fun h => ?_) (fun h => ?_) | refine SL.W.dguardP (fun h => ?_) (fun h => ?_)) <;> (fail_if_success (have : h = trivial := rfl)) <;> (fail_if_success (have : h = not_false := rfl)) <;> first | contradiction | (exfalso; omega) | (exfalso; revert h; simp; done) | skip) | ((first | refine SL.W.guardB (fun h => ?_) (fun h => ?_) | refine SL.W.dguardB (fun h => ?_) (fun h => ?_)) <;> (fail_if_success (have : h = (rfl : true = true) := rfl)) <;> (fail_if_success (have : h = (rfl : false = false) := rfl))) | refine SL.W.condB (fun h => ?_) (fun h => ?_) | (refine SL.TD.is ?_; first | refine SL.W.done ?_ | refine SL.W.dtwo ?_ ?_ | refine SL.W.dthree ?_ ?_ ?_))
  exact SL.TK.retD Tryz.func141 (SL.Res.one rfl (by rfl)) ⟨rfl, rfl⟩ EntD.nil
theorem pcClone_nil : Spec Tryz.prog 140 [.slice none 0 0] [] (fun r L => r = .slice none 0 0 ∧ L = []) := by
  refine SL.Spec.of_TK Go.Proofs.Tryz.func140 rfl rfl SL.call140 rfl ?_
  repeat' (first | (refine SL.TO.is ?_; first | (refine SL.W.quick ?_; first | refine SL.W.pass ?_ | refine SL.W.pv ?_ | refine SL.W.pv0 ?_) | refine SL.TO.nil ?_ | (refine SL.TO.nilD ?_; simp only [SL.setB]) | refine SL.W.pass ?_ | refine SL.W.pass0 ?_ | (refine SL.W.pure ?_; first | refine SL.W.pv ?_ | refine SL.W.pv0 ?_) | (refine SL.W.loud ?_; first | refine SL.W.load ?_ | refine SL.W.loadA ?_ | refine SL.W.store ?_ | refine SL.W.storeA ?_ | (refine SL.W.box ?_; intro b) | (refine SL.W.alloc ?_; intro b) | (refine SL.W.buildSlice ?_; intro b) | (refine SL.W.append ?_; intro a cap) | refine SL.W.bytesToStr ?_ | refine SL.W.toIntC ?_ | (refine SL.W.makeSlice ?_; intro b))) | (refine SL.TK.is ?_; first | refine SL.TK.seq ?_ | refine SL.TK.region ?_ | refine SL.TK.regionD SL.mixed (by simp only [SL.falses] <;> rfl) ?_ | refine SL.TK.block ?_ | refine SL.TK.inBlock ?_ | refine SL.TK.skip ?_ | refine SL.TK.scope ?_ | refine SL.TK.inScope ?_ | refine SL.TK.label ?_ | (refine SL.TK.isExit ?_; refine SL.W.exit ?_) | refine SL.W.condT ?_ | refine SL.W.condF ?_) | (refine SL.TD.is ?_; first | (refine SL.W.dfin ?_; simp only [SL.aps]) | refine SL.W.dpass ?_ | refine SL.W.dpure ?_ | refine SL.W.dload ?_ | refine SL.W.dloadA ?_ | refine SL.W.dfrz ?_ | (refine SL.W.dthaw ?_; simp only [SL.aps])) | ((first | refine SL.W.guardP (fun h => ?_) (fun h => ?_) | refine SL.W.condP (fun h => ?_) (fun h => ?_) | refine SL.W.dguardP (fun h => ?_) (fun h => ?_)) <;> (fail_if_success (have : h = trivial := rfl)) <;> (fail_if_success (have : h = not_false := rfl)) <;> first | contradiction | (exfalso; omega) | (exfalso; revert h; simp; done) | skip) | ((first | refine SL.W.guardB (fun h => ?_) (fun h => ?_) | refine SL.W.dguardB (fun h => ?_) (fun h => ?_)) <;> (fail_if_success (have : h = (rfl : true = true) := rfl)) <;> (fail_if_success (have : h = (rfl : false = false) := rfl))) | refine SL.W.condB (fun h => ?_) (fun h => ?_) | (refine SL.TD.is ?_; first | refine SL.W.done ?_ | refine SL.W.dtwo ?_ ?_ | refine SL.W.dthree ?_ ?_ ?_))
  exact SL.TK.retD Tryz.func140 (SL.Res.one rfl (by rfl)) ⟨rfl, rfl⟩ EntD.nil
theorem tabNew_nil : Spec Tryz.prog 135 [.slice none 0 0] [] (fun r L => ∃ tb, r = .pointer (some ⟨tb, 0, none⟩) ∧ L = [TabE tb]) := by
  refine SL.Spec.of_TK Go.Proofs.Tryz.func135 rfl rfl SL.call135 rfl ?_
  repeat' (first | (refine SL.TO.is ?_; first | (refine SL.W.quick ?_; first | refine SL.W.pass ?_ | refine SL.W.pv ?_ | refine SL.W.pv0 ?_) | (refine SL.TO.door (o := ⟨_, .call _, _, _, _, _⟩) ?_; first | (refine SL.TO.door (o := ⟨_, .call ⟨.value (.func 141), _, _⟩, _, _, _, _⟩) ?_; first | (refine SL.W.call (chClone_nil) ?_; rintro _ _ ⟨rfl, rfl⟩; try simp only [SL.aps]))) | refine SL.TO.nil ?_ | (refine SL.TO.nilD ?_; simp only [SL.setB]) | refine SL.W.pass ?_ | refine SL.W.pass0 ?_ | (refine SL.W.pure ?_; first | refine SL.W.pv ?_ | refine SL.W.pv0 ?_) | (refine SL.W.loud ?_; first | refine SL.W.load ?_ | refine SL.W.loadA ?_ | refine SL.W.store ?_ | refine SL.W.storeA ?_ | (refine SL.W.box ?_; intro b) | (refine SL.W.alloc ?_; intro b) | (refine SL.W.buildSlice ?_; intro b) | (refine SL.W.append ?_; intro a cap) | refine SL.W.bytesToStr ?_ | refine SL.W.toIntC ?_ | (refine SL.W.makeSlice ?_; intro b))) | (refine SL.TK.is ?_; first | refine SL.TK.seq ?_ | refine SL.TK.region ?_ | refine SL.TK.regionD SL.mixed (by simp only [SL.falses] <;> rfl) ?_ | refine SL.TK.block ?_ | refine SL.TK.inBlock ?_ | refine SL.TK.skip ?_ | refine SL.TK.scope ?_ | refine SL.TK.inScope ?_ | refine SL.TK.label ?_ | (refine SL.TK.isExit ?_; refine SL.W.exit ?_) | refine SL.W.condT ?_ | refine SL.W.condF ?_) | (refine SL.TD.is ?_; first | (refine SL.W.dfin ?_; simp only [SL.aps]) | refine SL.W.dpass ?_ | refine SL.W.dpure ?_ | refine SL.W.dload ?_ | refine SL.W.dloadA ?_ | refine SL.W.dfrz ?_ | (refine SL.W.dthaw ?_; simp only [SL.aps])) | ((first | refine SL.W.guardP (fun h => ?_) (fun h => ?_) | refine SL.W.condP (fun h => ?_) (fun h => ?_) | refine SL.W.dguardP (fun h => ?_) (fun h => ?_)) <;> (fail_if_success (have : h = trivial := rfl)) <;> (fail_if_success (have : h = not_false := rfl)) <;> first | contradiction | (exfalso; omega) | (exfalso; revert h; simp; done) | skip) | ((first | refine SL.W.guardB (fun h => ?_) (fun h => ?_) | refine SL.W.dguardB (fun h => ?_) (fun h => ?_)) <;> (fail_if_success (have : h = (rfl : true = true) := rfl)) <;> (fail_if_success (have : h = (rfl : false = false) := rfl))) | refine SL.W.condB (fun h => ?_) (fun h => ?_) | (refine SL.TD.is ?_; first | refine SL.W.done ?_ | refine SL.W.dtwo ?_ ?_ | refine SL.W.dthree ?_ ?_ ?_))
  exact SL.TK.retD Tryz.func135 (SL.Res.one rfl (by rfl)) ⟨_, rfl, rfl⟩ (EntD.cons (by first | ((repeat (first | exact SL.Pick.head | apply SL.Pick.tail)); done) | fail) EntD.nil)
theorem tabNone_spec (tb : Nat) (x y z l : Value) : Spec Tryz.prog 105 [.pointer (some ⟨tb, 0, none⟩)] [SL.blk tb 189 [x, y, z, l, .bool true]] (fun r L => r = .bool false ∧ L = [SL.blk tb 189 [x, y, z, l, .bool true]]) := by
  refine SL.Spec.of_TK Go.Proofs.Tryz.func105 rfl rfl SL.call105 rfl ?_
  repeat' (first | (refine SL.TO.is ?_; first | (refine SL.W.quick ?_; first | refine SL.W.pass ?_ | refine SL.W.pv ?_ | refine SL.W.pv0 ?_) | refine SL.TO.nil ?_ | (refine SL.TO.nilD ?_; simp only [SL.setB]) | refine SL.W.pass ?_ | refine SL.W.pass0 ?_ | (refine SL.W.pure ?_; first | refine SL.W.pv ?_ | refine SL.W.pv0 ?_) | (refine SL.W.loud ?_; first | refine SL.W.load ?_ | refine SL.W.loadA ?_ | refine SL.W.store ?_ | refine SL.W.storeA ?_ | (refine SL.W.box ?_; intro b) | (refine SL.W.alloc ?_; intro b) | (refine SL.W.buildSlice ?_; intro b) | (refine SL.W.append ?_; intro a cap) | refine SL.W.bytesToStr ?_ | refine SL.W.toIntC ?_ | (refine SL.W.makeSlice ?_; intro b))) | (refine SL.TK.is ?_; first | refine SL.TK.seq ?_ | refine SL.TK.region ?_ | refine SL.TK.regionD SL.mixed (by simp only [SL.falses] <;> rfl) ?_ | refine SL.TK.block ?_ | refine SL.TK.inBlock ?_ | refine SL.TK.skip ?_ | refine SL.TK.scope ?_ | refine SL.TK.inScope ?_ | refine SL.TK.label ?_ | (refine SL.TK.isExit ?_; refine SL.W.exit ?_) | refine SL.W.condT ?_ | refine SL.W.condF ?_) | (refine SL.TD.is ?_; first | (refine SL.W.dfin ?_; simp only [SL.aps]) | refine SL.W.dpass ?_ | refine SL.W.dpure ?_ | refine SL.W.dload ?_ | refine SL.W.dloadA ?_ | refine SL.W.dfrz ?_ | (refine SL.W.dthaw ?_; simp only [SL.aps])) | ((first | refine SL.W.guardP (fun h => ?_) (fun h => ?_) | refine SL.W.condP (fun h => ?_) (fun h => ?_) | refine SL.W.dguardP (fun h => ?_) (fun h => ?_)) <;> (fail_if_success (have : h = trivial := rfl)) <;> (fail_if_success (have : h = not_false := rfl)) <;> first | contradiction | (exfalso; omega) | (exfalso; revert h; simp; done) | skip) | ((first | refine SL.W.guardB (fun h => ?_) (fun h => ?_) | refine SL.W.dguardB (fun h => ?_) (fun h => ?_)) <;> (fail_if_success (have : h = (rfl : true = true) := rfl)) <;> (fail_if_success (have : h = (rfl : false = false) := rfl))) | refine SL.W.condB (fun h => ?_) (fun h => ?_) | (refine SL.TD.is ?_; first | refine SL.W.done ?_ | refine SL.W.dtwo ?_ ?_ | refine SL.W.dthree ?_ ?_ ?_))
  all_goals exact SL.TK.retD Tryz.func105 (SL.Res.one rfl (by rfl)) ⟨rfl, rfl⟩ (EntD.cons (by first | ((repeat (first | exact SL.Pick.head | apply SL.Pick.tail)); done) | fail) EntD.nil)
theorem tabCopy_spec (tb : Nat) : Spec Tryz.prog 106 [.pointer (some ⟨tb, 0, none⟩)] [TabE tb] (fun r L => ∃ cb, r = .pointer (some ⟨cb, 0, none⟩) ∧ L = [TabE cb, TabE tb]) := by
  refine SL.Spec.of_TK Go.Proofs.Tryz.func106 rfl rfl SL.call106 rfl ?_
  unfold TabE tabC
  repeat' (first | (refine SL.TO.is ?_; first | (refine SL.W.quick ?_; first | refine SL.W.pass ?_ | refine SL.W.pv ?_ | refine SL.W.pv0 ?_) | (refine SL.TO.door (o := ⟨_, .call _, _, _, _, _⟩) ?_; first | (refine SL.TO.door (o := ⟨_, .call ⟨.value (.func 105), _, _⟩, _, _, _, _⟩) ?_; first | (refine SL.W.call (tabNone_spec _ _ _ _ _) ?_; rintro _ _ ⟨rfl, rfl⟩; try simp only [SL.aps])) | (refine SL.TO.door (o := ⟨_, .call ⟨.value (.func 141), _, _⟩, _, _, _, _⟩) ?_; first | refine SL.W.callQ chClone_nil ?_) | (refine SL.TO.door (o := ⟨_, .call ⟨.value (.func 140), _, _⟩, _, _, _, _⟩) ?_; first | refine SL.W.callQ pcClone_nil ?_)) | refine SL.TO.nil ?_ | (refine SL.TO.nilD ?_; simp only [SL.setB]) | refine SL.W.pass ?_ | refine SL.W.pass0 ?_ | (refine SL.W.pure ?_; first | refine SL.W.pv ?_ | refine SL.W.pv0 ?_) | (refine SL.W.loud ?_; first | refine SL.W.load ?_ | refine SL.W.loadA ?_ | refine SL.W.store ?_ | refine SL.W.storeA ?_ | (refine SL.W.box ?_; intro b) | (refine SL.W.alloc ?_; intro b) | (refine SL.W.buildSlice ?_; intro b) | (refine SL.W.append ?_; intro a cap) | refine SL.W.bytesToStr ?_ | refine SL.W.toIntC ?_ | (refine SL.W.makeSlice ?_; intro b))) | (refine SL.TK.is ?_; first | refine SL.TK.seq ?_ | refine SL.TK.region ?_ | refine SL.TK.regionD SL.mixed (by simp only [SL.falses] <;> rfl) ?_ | refine SL.TK.block ?_ | refine SL.TK.inBlock ?_ | refine SL.TK.skip ?_ | refine SL.TK.scope ?_ | refine SL.TK.inScope ?_ | refine SL.TK.label ?_ | (refine SL.TK.isExit ?_; refine SL.W.exit ?_) | refine SL.W.condT ?_ | refine SL.W.condF ?_) | (refine SL.TD.is ?_; first | (refine SL.W.dfin ?_; simp only [SL.aps]) | refine SL.W.dpass ?_ | refine SL.W.dpure ?_ | refine SL.W.dload ?_ | refine SL.W.dloadA ?_ | refine SL.W.dfrz ?_ | (refine SL.W.dthaw ?_; simp only [SL.aps])) | ((first | refine SL.W.guardP (fun h => ?_) (fun h => ?_) | refine SL.W.condP (fun h => ?_) (fun h => ?_) | refine SL.W.dguardP (fun h => ?_) (fun h => ?_)) <;> (fail_if_success (have : h = trivial := rfl)) <;> (fail_if_success (have : h = not_false := rfl)) <;> first | contradiction | (exfalso; omega) | (exfalso; revert h; simp; done) | skip) | ((first | refine SL.W.guardB (fun h => ?_) (fun h => ?_) | refine SL.W.dguardB (fun h => ?_) (fun h => ?_)) <;> (fail_if_success (have : h = (rfl : true = true) := rfl)) <;> (fail_if_success (have : h = (rfl : false = false) := rfl))) | refine SL.W.condB (fun h => ?_) (fun h => ?_) | (refine SL.TD.is ?_; first | refine SL.W.done ?_ | refine SL.W.dtwo ?_ ?_ | refine SL.W.dthree ?_ ?_ ?_))
  all_goals exact SL.TK.retD Tryz.func106 (SL.Res.one rfl (by rfl)) ⟨_, rfl, rfl⟩ (EntD.cons (by first | ((repeat (first | exact SL.Pick.head | apply SL.Pick.tail)); done) | fail) (EntD.cons (by first | ((repeat (first | exact SL.Pick.head | apply SL.Pick.tail)); done) | fail) EntD.nil))
theorem pastNew0 : Spec Tryz.prog 136 [.int .u64 0, .int .i64 0] [] (fun r L => ∃ pb, r = .tuple #[.pointer (some ⟨pb, 0, none⟩), .int .i64 0] ∧ L = [PastE pb]) := by
  refine SL.Spec.of_TK Go.Proofs.Tryz.func136 rfl rfl SL.call136 rfl ?_
  repeat' (first | (refine SL.TO.is ?_; first | (refine SL.W.quick ?_; first | refine SL.W.pass ?_ | refine SL.W.pv ?_ | refine SL.W.pv0 ?_) | refine SL.TO.nil ?_ | (refine SL.TO.nilD ?_; simp only [SL.setB]) | refine SL.W.pass ?_ | refine SL.W.pass0 ?_ | (refine SL.W.pure ?_; first | refine SL.W.pv ?_ | refine SL.W.pv0 ?_) | (refine SL.W.loud ?_; first | refine SL.W.load ?_ | refine SL.W.loadA ?_ | refine SL.W.store ?_ | refine SL.W.storeA ?_ | (refine SL.W.box ?_; intro b) | (refine SL.W.alloc ?_; intro b) | (refine SL.W.buildSlice ?_; intro b) | (refine SL.W.append ?_; intro a cap) | refine SL.W.bytesToStr ?_ | refine SL.W.toIntC ?_ | (refine SL.W.makeSlice ?_; intro b))) | (refine SL.TK.is ?_; first | refine SL.TK.seq ?_ | refine SL.TK.region ?_ | refine SL.TK.regionD SL.mixed (by simp only [SL.falses] <;> rfl) ?_ | refine SL.TK.block ?_ | refine SL.TK.inBlock ?_ | refine SL.TK.skip ?_ | refine SL.TK.scope ?_ | refine SL.TK.inScope ?_ | refine SL.TK.label ?_ | (refine SL.TK.isExit ?_; refine SL.W.exit ?_) | refine SL.W.condT ?_ | refine SL.W.condF ?_) | (refine SL.TD.is ?_; first | (refine SL.W.dfin ?_; simp only [SL.aps]) | refine SL.W.dpass ?_ | refine SL.W.dpure ?_ | refine SL.W.dload ?_ | refine SL.W.dloadA ?_ | refine SL.W.dfrz ?_ | (refine SL.W.dthaw ?_; simp only [SL.aps])) | ((first | refine SL.W.guardP (fun h => ?_) (fun h => ?_) | refine SL.W.condP (fun h => ?_) (fun h => ?_) | refine SL.W.dguardP (fun h => ?_) (fun h => ?_)) <;> (fail_if_success (have : h = trivial := rfl)) <;> (fail_if_success (have : h = not_false := rfl)) <;> first | contradiction | (exfalso; omega) | (exfalso; revert h; simp; done) | skip) | ((first | refine SL.W.guardB (fun h => ?_) (fun h => ?_) | refine SL.W.dguardB (fun h => ?_) (fun h => ?_)) <;> (fail_if_success (have : h = (rfl : true = true) := rfl)) <;> (fail_if_success (have : h = (rfl : false = false) := rfl))) | refine SL.W.condB (fun h => ?_) (fun h => ?_) | (refine SL.TD.is ?_; first | refine SL.W.done ?_ | refine SL.W.dtwo ?_ ?_ | refine SL.W.dthree ?_ ?_ ?_))
  all_goals exact SL.TK.retD Tryz.func136 (SL.Res.two rfl (by rfl) (by rfl)) ⟨_, rfl, rfl⟩ (EntD.frm (by first | ((repeat (first | exact SL.Frm.nil | exact SL.Frm.refl | (apply SL.Frm.cons; repeat (first | exact SL.Pick.head | apply SL.Pick.tail)))); done) | fail) pastE_shut EntD.nil)
theorem pastNone_spec (pb : Nat) (x y z : Value) : Spec Tryz.prog 115 [.pointer (some ⟨pb, 0, none⟩)] [SL.blk pb 201 [x, y, z, .bool true]] (fun r L => r = .bool false ∧ L = [SL.blk pb 201 [x, y, z, .bool true]]) := by
  refine SL.Spec.of_TK Go.Proofs.Tryz.func115 rfl rfl SL.call115 rfl ?_
  repeat' (first | (refine SL.TO.is ?_; first | (refine SL.W.quick ?_; first | refine SL.W.pass ?_ | refine SL.W.pv ?_ | refine SL.W.pv0 ?_) | refine SL.TO.nil ?_ | (refine SL.TO.nilD ?_; simp only [SL.setB]) | refine SL.W.pass ?_ | refine SL.W.pass0 ?_ | (refine SL.W.pure ?_; first | refine SL.W.pv ?_ | refine SL.W.pv0 ?_) | (refine SL.W.loud ?_; first | refine SL.W.load ?_ | refine SL.W.loadA ?_ | refine SL.W.store ?_ | refine SL.W.storeA ?_ | (refine SL.W.box ?_; intro b) | (refine SL.W.alloc ?_; intro b) | (refine SL.W.buildSlice ?_; intro b) | (refine SL.W.append ?_; intro a cap) | refine SL.W.bytesToStr ?_ | refine SL.W.toIntC ?_ | (refine SL.W.makeSlice ?_; intro b))) | (refine SL.TK.is ?_; first | refine SL.TK.seq ?_ | refine SL.TK.region ?_ | refine SL.TK.regionD SL.mixed (by simp only [SL.falses] <;> rfl) ?_ | refine SL.TK.block ?_ | refine SL.TK.inBlock ?_ | refine SL.TK.skip ?_ | refine SL.TK.scope ?_ | refine SL.TK.inScope ?_ | refine SL.TK.label ?_ | (refine SL.TK.isExit ?_; refine SL.W.exit ?_) | refine SL.W.condT ?_ | refine SL.W.condF ?_) | (refine SL.TD.is ?_; first | (refine SL.W.dfin ?_; simp only [SL.aps]) | refine SL.W.dpass ?_ | refine SL.W.dpure ?_ | refine SL.W.dload ?_ | refine SL.W.dloadA ?_ | refine SL.W.dfrz ?_ | (refine SL.W.dthaw ?_; simp only [SL.aps])) | ((first | refine SL.W.guardP (fun h => ?_) (fun h => ?_) | refine SL.W.condP (fun h => ?_) (fun h => ?_) | refine SL.W.dguardP (fun h => ?_) (fun h => ?_)) <;> (fail_if_success (have : h = trivial := rfl)) <;> (fail_if_success (have : h = not_false := rfl)) <;> first | contradiction | (exfalso; omega) | (exfalso; revert h; simp; done) | skip) | ((first | refine SL.W.guardB (fun h => ?_) (fun h => ?_) | refine SL.W.dguardB (fun h => ?_) (fun h => ?_)) <;> (fail_if_success (have : h = (rfl : true = true) := rfl)) <;> (fail_if_success (have : h = (rfl : false = false) := rfl))) | refine SL.W.condB (fun h => ?_) (fun h => ?_) | (refine SL.TD.is ?_; first | refine SL.W.done ?_ | refine SL.W.dtwo ?_ ?_ | refine SL.W.dthree ?_ ?_ ?_))
  all_goals exact SL.TK.retD Tryz.func115 (SL.Res.one rfl (by rfl)) ⟨rfl, rfl⟩ (EntD.cons (by first | ((repeat (first | exact SL.Pick.head | apply SL.Pick.tail)); done) | fail) EntD.nil)
theorem owns_nil : Spec Tryz.prog 117 [.slice none 0 0] [] (fun r L => r = .slice none 0 0 ∧ L = []) := by
  refine SL.Spec.of_TK Go.Proofs.Tryz.func117 rfl rfl SL.call117 rfl ?_
  repeat' (first | (refine SL.TO.is ?_; first | (refine SL.W.quick ?_; first | refine SL.W.pass ?_ | refine SL.W.pv ?_ | refine SL.W.pv0 ?_) | refine SL.TO.nil ?_ | (refine SL.TO.nilD ?_; simp only [SL.setB]) | refine SL.W.pass ?_ | refine SL.W.pass0 ?_ | (refine SL.W.pure ?_; first | refine SL.W.pv ?_ | refine SL.W.pv0 ?_) | (refine SL.W.loud ?_; first | refine SL.W.load ?_ | refine SL.W.loadA ?_ | refine SL.W.store ?_ | refine SL.W.storeA ?_ | (refine SL.W.box ?_; intro b) | (refine SL.W.alloc ?_; intro b) | (refine SL.W.buildSlice ?_; intro b) | (refine SL.W.append ?_; intro a cap) | refine SL.W.bytesToStr ?_ | refine SL.W.toIntC ?_ | (refine SL.W.makeSlice ?_; intro b))) | (refine SL.TK.lp ?_; first | (refine SL.TK.block ?_; refine SL.TK.enter ?_)) | (refine SL.TK.is ?_; first | refine SL.TK.seq ?_ | refine SL.TK.region ?_ | refine SL.TK.regionD SL.mixed (by simp only [SL.falses] <;> rfl) ?_ | refine SL.TK.block ?_ | refine SL.TK.inBlock ?_ | refine SL.TK.skip ?_ | refine SL.TK.scope ?_ | refine SL.TK.inScope ?_ | refine SL.TK.label ?_ | (refine SL.TK.isExit ?_; refine SL.W.exit ?_) | refine SL.W.condT ?_ | refine SL.W.condF ?_) | (refine SL.TD.is ?_; first | (refine SL.W.dfin ?_; simp only [SL.aps]) | refine SL.W.dpass ?_ | refine SL.W.dpure ?_ | refine SL.W.dload ?_ | refine SL.W.dloadA ?_ | refine SL.W.dfrz ?_ | (refine SL.W.dthaw ?_; simp only [SL.aps])) | ((first | refine SL.W.guardP (fun h => ?_) (fun h => ?_) | refine SL.W.condP (fun h => ?_) (fun h => ?_) | refine SL.W.dguardP (fun h => ?_) (fun h => ?_)) <;> (fail_if_success (have : h = trivial := rfl)) <;> (fail_if_success (have : h = not_false := rfl)) <;> first | contradiction | (exfalso; omega) | (exfalso; revert h; simp; done) | skip) | ((first | refine SL.W.guardB (fun h => ?_) (fun h => ?_) | refine SL.W.dguardB (fun h => ?_) (fun h => ?_)) <;> (fail_if_success (have : h = (rfl : true = true) := rfl)) <;> (fail_if_success (have : h = (rfl : false = false) := rfl))) | refine SL.W.condB (fun h => ?_) (fun h => ?_) | (refine SL.TD.is ?_; first | refine SL.W.done ?_ | refine SL.W.dtwo ?_ ?_ | refine SL.W.dthree ?_ ?_ ?_))
  all_goals exact SL.TK.retD Tryz.func117 (SL.Res.one rfl (by rfl)) ⟨rfl, rfl⟩ EntD.nil
theorem intClone_spec (a : Option Addr) (n cap : Nat) (cs : List Value) (hn : n ≤ 1000) (h1 : ∀ v ∈ cs, v.oneCell' = true) :
    Spec Tryz.prog 142 [.slice a n cap] [own 3 1 a n cap cs] (fun r L => ∃ a' cap', r = .slice a' n cap' ∧ L = [own 3 1 a n cap cs, own 3 1 a' n cap' cs]) := by
  refine SL.Spec.of_TK Go.Proofs.Tryz.func142 rfl rfl SL.call142 rfl ?_
  cases a with
  | none =>
    refine SL.TK.ownNone (e := 3) (sz := 1) (by first | ((repeat (first | exact SL.Pick.head | apply SL.Pick.tail)); done) | fail) (fun e1 e2 e3 => ?_)
    subst e1 e2 e3
    repeat' (first | (refine SL.TO.is ?_; first | (refine SL.W.quick ?_; first | refine SL.W.pass ?_ | refine SL.W.pv ?_ | refine SL.W.pv0 ?_) | refine SL.TO.nil ?_ | (refine SL.TO.nilD ?_; simp only [SL.setB]) | refine SL.W.pass ?_ | refine SL.W.pass0 ?_ | (refine SL.W.pure ?_; first | refine SL.W.pv ?_ | refine SL.W.pv0 ?_) | (refine SL.W.loud ?_; first | refine SL.W.load ?_ | refine SL.W.loadA ?_ | refine SL.W.store ?_ | refine SL.W.storeA ?_ | (refine SL.W.box ?_; intro b) | (refine SL.W.alloc ?_; intro b) | (refine SL.W.buildSlice ?_; intro b) | (refine SL.W.append ?_; intro a cap) | refine SL.W.bytesToStr ?_ | refine SL.W.toIntC ?_ | (refine SL.W.makeSlice ?_; intro b))) | (refine SL.TK.is ?_; first | refine SL.TK.seq ?_ | refine SL.TK.region ?_ | refine SL.TK.regionD SL.mixed (by simp only [SL.falses] <;> rfl) ?_ | refine SL.TK.block ?_ | refine SL.TK.inBlock ?_ | refine SL.TK.skip ?_ | refine SL.TK.scope ?_ | refine SL.TK.inScope ?_ | refine SL.TK.label ?_ | (refine SL.TK.isExit ?_; refine SL.W.exit ?_) | refine SL.W.condT ?_ | refine SL.W.condF ?_) | (refine SL.TD.is ?_; first | (refine SL.W.dfin ?_; simp only [SL.aps]) | refine SL.W.dpass ?_ | refine SL.W.dpure ?_ | refine SL.W.dload ?_ | refine SL.W.dloadA ?_ | refine SL.W.dfrz ?_ | (refine SL.W.dthaw ?_; simp only [SL.aps])) | ((first | refine SL.W.guardP (fun h => ?_) (fun h => ?_) | refine SL.W.condP (fun h => ?_) (fun h => ?_) | refine SL.W.dguardP (fun h => ?_) (fun h => ?_)) <;> (fail_if_success (have : h = trivial := rfl)) <;> (fail_if_success (have : h = not_false := rfl)) <;> first | contradiction | (exfalso; omega) | (exfalso; revert h; simp; done) | skip) | ((first | refine SL.W.guardB (fun h => ?_) (fun h => ?_) | refine SL.W.dguardB (fun h => ?_) (fun h => ?_)) <;> (fail_if_success (have : h = (rfl : true = true) := rfl)) <;> (fail_if_success (have : h = (rfl : false = false) := rfl))) | refine SL.W.condB (fun h => ?_) (fun h => ?_) | (refine SL.TD.is ?_; first | refine SL.W.done ?_ | refine SL.W.dtwo ?_ ?_ | refine SL.W.dthree ?_ ?_ ?_))
    exact SL.TK.retD Tryz.func142 (SL.Res.one rfl (by rfl)) ⟨none, 0, rfl, rfl⟩ (EntD.of_ent (Ent.own_nil (Ent.own_nil Ent.refl)))
  | some q =>
    refine SL.TK.ownLen (e := 3) (sz := 1) (by first | ((repeat (first | exact SL.Pick.head | apply SL.Pick.tail)); done) | fail) (fun e1 e2 => ?_)
    repeat' (first | (refine SL.TO.is ?_; first | (refine SL.W.quick ?_; first | refine SL.W.pass ?_ | refine SL.W.pv ?_ | refine SL.W.pv0 ?_) | refine SL.TO.nil ?_ | (refine SL.TO.nilD ?_; simp only [SL.setB]) | refine SL.W.pass ?_ | refine SL.W.pass0 ?_ | (refine SL.W.pure ?_; first | refine SL.W.pv ?_ | refine SL.W.pv0 ?_) | (refine SL.W.loud ?_; first | refine SL.W.load ?_ | refine SL.W.loadA ?_ | refine SL.W.store ?_ | refine SL.W.storeA ?_ | (refine SL.W.box ?_; intro b) | (refine SL.W.alloc ?_; intro b) | (refine SL.W.buildSlice ?_; intro b) | (refine SL.W.append ?_; intro a cap) | refine SL.W.bytesToStr ?_ | refine SL.W.toIntC ?_ | (refine SL.W.makeSlice ?_; intro b))) | (refine SL.TK.is ?_; first | refine SL.TK.seq ?_ | refine SL.TK.region ?_ | refine SL.TK.regionD SL.mixed (by simp only [SL.falses] <;> rfl) ?_ | refine SL.TK.block ?_ | refine SL.TK.inBlock ?_ | refine SL.TK.skip ?_ | refine SL.TK.scope ?_ | refine SL.TK.inScope ?_ | refine SL.TK.label ?_ | (refine SL.TK.isExit ?_; refine SL.W.exit ?_) | refine SL.W.condT ?_ | refine SL.W.condF ?_) | (refine SL.TD.is ?_; first | (refine SL.W.dfin ?_; simp only [SL.aps]) | refine SL.W.dpass ?_ | refine SL.W.dpure ?_ | refine SL.W.dload ?_ | refine SL.W.dloadA ?_ | refine SL.W.dfrz ?_ | (refine SL.W.dthaw ?_; simp only [SL.aps])) | ((first | refine SL.W.guardP (fun h => ?_) (fun h => ?_) | refine SL.W.condP (fun h => ?_) (fun h => ?_) | refine SL.W.dguardP (fun h => ?_) (fun h => ?_)) <;> (fail_if_success (have : h = trivial := rfl)) <;> (fail_if_success (have : h = not_false := rfl)) <;> first | contradiction | (exfalso; omega) | (exfalso; revert h; simp; done) | skip) | ((first | refine SL.W.guardB (fun h => ?_) (fun h => ?_) | refine SL.W.dguardB (fun h => ?_) (fun h => ?_)) <;> (fail_if_success (have : h = (rfl : true = true) := rfl)) <;> (fail_if_success (have : h = (rfl : false = false) := rfl))) | refine SL.W.condB (fun h => ?_) (fun h => ?_) | (refine SL.TD.is ?_; first | refine SL.W.done ?_ | refine SL.W.dtwo ?_ ?_ | refine SL.W.dthree ?_ ?_ ?_))
    exact SL.TK.retD Tryz.func142 (SL.Res.one rfl (by rfl)) ⟨_, _, rfl, rfl⟩ (EntD.cons (by first | ((repeat (first | exact SL.Pick.head | apply SL.Pick.tail)); done) | fail) (EntD.cons (by first | ((repeat (first | exact SL.Pick.head | apply SL.Pick.tail)); done) | fail) EntD.nil))
theorem pastCopy_spec (pb : Nat) : Spec Tryz.prog 107 [.pointer (some ⟨pb, 0, none⟩)] [PastE pb] (fun r L => ∃ cb, r = .pointer (some ⟨cb, 0, none⟩) ∧ L = [PastE cb, PastE pb]) := by
  have hcl := fun (a : Option Addr) (c : Nat) => intClone_spec a 1 c [.int .i64 0] (by omega) (by simp [Value.oneCell'])
  refine SL.Spec.of_TK Go.Proofs.Tryz.func107 rfl rfl SL.call107 rfl ?_
  refine SL.TK.openPE (by first | ((repeat (first | exact SL.Pick.head | apply SL.Pick.tail)); done) | fail) (fun a c => ?_)
  repeat' (first | (refine SL.TO.is ?_; first | (refine SL.W.quick ?_; first | refine SL.W.pass ?_ | refine SL.W.pv ?_ | refine SL.W.pv0 ?_) | (refine SL.TO.door (o := ⟨_, .call _, _, _, _, _⟩) ?_; first | (refine SL.TO.door (o := ⟨_, .call ⟨.value (.func 115), _, _⟩, _, _, _, _⟩) ?_; first | (refine SL.W.call (pastNone_spec _ _ _ _) ?_; rintro _ _ ⟨rfl, rfl⟩; try simp only [SL.aps])) | (refine SL.TO.door (o := ⟨_, .call ⟨.value (.func 117), _, _⟩, _, _, _, _⟩) ?_; first | refine SL.W.callQ owns_nil ?_) | (refine SL.TO.door (o := ⟨_, .call ⟨.value (.func 142), _, _⟩, _, _, _, _⟩) ?_; first | (refine SL.W.callG (hcl _ _) ?_; rintro _ _ ⟨a2, c2, rfl, rfl⟩; refine ⟨[own 3 1 a2 1 c2 [.int .i64 0]], rfl, ?_⟩; try simp only [SL.aps]))) | refine SL.TO.nil ?_ | (refine SL.TO.nilD ?_; simp only [SL.setB]) | refine SL.W.pass ?_ | refine SL.W.pass0 ?_ | (refine SL.W.pure ?_; first | refine SL.W.pv ?_ | refine SL.W.pv0 ?_) | (refine SL.W.loud ?_; first | refine SL.W.load ?_ | refine SL.W.loadA ?_ | refine SL.W.store ?_ | refine SL.W.storeA ?_ | (refine SL.W.box ?_; intro b) | (refine SL.W.alloc ?_; intro b) | (refine SL.W.buildSlice ?_; intro b) | (refine SL.W.append ?_; intro a cap) | refine SL.W.bytesToStr ?_ | refine SL.W.toIntC ?_ | (refine SL.W.makeSlice ?_; intro b))) | (refine SL.TK.is ?_; first | refine SL.TK.seq ?_ | refine SL.TK.region ?_ | refine SL.TK.regionD SL.mixed (by simp only [SL.falses] <;> rfl) ?_ | refine SL.TK.block ?_ | refine SL.TK.inBlock ?_ | refine SL.TK.skip ?_ | refine SL.TK.scope ?_ | refine SL.TK.inScope ?_ | refine SL.TK.label ?_ | (refine SL.TK.isExit ?_; refine SL.W.exit ?_) | refine SL.W.condT ?_ | refine SL.W.condF ?_) | (refine SL.TD.is ?_; first | (refine SL.W.dfin ?_; simp only [SL.aps]) | refine SL.W.dpass ?_ | refine SL.W.dpure ?_ | refine SL.W.dload ?_ | refine SL.W.dloadA ?_ | refine SL.W.dfrz ?_ | (refine SL.W.dthaw ?_; simp only [SL.aps])) | ((first | refine SL.W.guardP (fun h => ?_) (fun h => ?_) | refine SL.W.condP (fun h => ?_) (fun h => ?_) | refine SL.W.dguardP (fun h => ?_) (fun h => ?_)) <;> (fail_if_success (have : h = trivial := rfl)) <;> (fail_if_success (have : h = not_false := rfl)) <;> first | contradiction | (exfalso; omega) | (exfalso; revert h; simp; done) | skip) | ((first | refine SL.W.guardB (fun h => ?_) (fun h => ?_) | refine SL.W.dguardB (fun h => ?_) (fun h => ?_)) <;> (fail_if_success (have : h = (rfl : true = true) := rfl)) <;> (fail_if_success (have : h = (rfl : false = false) := rfl))) | refine SL.W.condB (fun h => ?_) (fun h => ?_) | (refine SL.TD.is ?_; first | refine SL.W.done ?_ | refine SL.W.dtwo ?_ ?_ | refine SL.W.dthree ?_ ?_ ?_))
  all_goals exact SL.TK.retD Tryz.func107 (SL.Res.one rfl (by rfl)) ⟨_, rfl, rfl⟩ (EntD.frm (by first | ((repeat (first | exact SL.Frm.nil | exact SL.Frm.refl | (apply SL.Frm.cons; repeat (first | exact SL.Pick.head | apply SL.Pick.tail)))); done) | fail) pastE_shut (EntD.frm (by first | ((repeat (first | exact SL.Frm.nil | exact SL.Frm.refl | (apply SL.Frm.cons; repeat (first | exact SL.Pick.head | apply SL.Pick.tail)))); done) | fail) pastE_shut EntD.nil))
end SL
end
section
set_option linter.unusedVariables false
set_option linter.unusedSimpArgs false
namespace SL
open Go
def putF : Nat → Nat → List UInt8
  | 0, n => [UInt8.ofNat n]
  | f + 1, n => if n < 128 then [UInt8.ofNat n] else UInt8.ofNat (n % 128 + 128) :: putF f (n / 128)
def putN (n : Nat) : List UInt8 := putF 9 n
def getG : Nat → List UInt8 → Nat → Nat → Nat × Nat × Int
  | 0, _, _, _ => (0, 0, 5)
  | _ + 1, [], _, _ => (0, 0, 4)
  | f + 1, c :: r, i, n => if 128 ≤ c.toNat then getG f r (i + 1) (n + (c.toNat - 128) * 128 ^ i)
    else if (c.toNat = 0 ∧ 0 < i) ∨ (i = 9 ∧ 1 < c.toNat) then (0, 0, 5) else (n + c.toNat * 128 ^ i, i + 1, 0)
def getN (b : List UInt8) : Nat × Nat × Int := getG 10 b 0 0
theorem putF_ne (f n : Nat) : putF f n ≠ [] := by
  cases f with
  | zero => simp [putF]
  | succ f => simp only [putF]; split <;> simp
theorem putF_len (f n : Nat) : 1 ≤ (putF f n).length := by
  have := putF_ne f n
  cases h : putF f n with
  | nil => exact absurd h this
  | cons => simp
theorem putF_le : ∀ (f n : Nat), (putF f n).length ≤ f + 1
  | 0, n => by simp [putF]
  | f + 1, n => by
    simp only [putF]
    split
    · simp
    · have := putF_le f (n / 128)
      simp; omega
theorem putN_len (n : Nat) : 1 ≤ (putN n).length ∧ (putN n).length ≤ 10 := ⟨putF_len 9 n, putF_le 9 n⟩
theorem pow128 (i : Nat) : (128 : Nat) ^ (i + 1) = 128 * 128 ^ i := by rw [Nat.pow_succ, Nat.mul_comm]
theorem u8n {n : Nat} (h : n < 256) : (UInt8.ofNat n).toNat = n := by
  rw [UInt8.toNat_ofNat']; exact Nat.mod_eq_of_lt h
theorem getG_err : ∀ (f i acc : Nat) (b : List UInt8) (n s : Nat) (e : Int), getG f b i acc = (n, s, e) → (e = 0 ∨ (n = 0 ∧ s = 0 ∧ (e = 4 ∨ e = 5)))
  | 0, _, _, _, n, s, e, h => by simp [getG] at h; omega
  | _ + 1, _, _, [], n, s, e, h => by simp [getG] at h; omega
  | f + 1, i, acc, c :: r, n, s, e, h => by
    simp only [getG] at h
    split at h
    · exact getG_err f _ _ r n s e h
    · split at h <;> simp at h <;> omega
theorem getN_err {b : List UInt8} {n s : Nat} {e : Int} (h : getN b = (n, s, e)) : e = 0 ∨ (n = 0 ∧ s = 0 ∧ (e = 4 ∨ e = 5)) := getG_err _ _ _ _ _ _ _ h
theorem getG_len : ∀ (f i acc : Nat) (b : List UInt8) (n s : Nat), getG f b i acc = (n, s, 0) → i < s ∧ s ≤ i + b.length ∧ s ≤ i + f
  | 0, _, _, _, n, s, h => by simp [getG] at h
  | _ + 1, _, _, [], n, s, h => by simp [getG] at h
  | f + 1, i, acc, c :: r, n, s, h => by
    simp only [getG] at h
    split at h
    · have := getG_len f _ _ r n s h
      simp; omega
    · split at h
      · simp at h
      · simp at h; simp; omega
theorem getN_len {b : List UInt8} {n s : Nat} (h : getN b = (n, s, 0)) : 0 < s ∧ s ≤ b.length := by
  have := getG_len _ _ _ _ _ _ h
  omega
abbrev RdS := List UInt8 × Int
def rFail (e : Int) (s : RdS) : RdS := (s.1, if s.2 = 0 then e else s.2)
def rNum (s : RdS) : Nat × RdS := if s.2 = 0 then (if (getN s.1).2.2 = 0 then ((getN s.1).1, s.1.drop (getN s.1).2.1, 0) else (0, s.1, (getN s.1).2.2)) else (0, s)
def rUpto (most : Nat) (s : RdS) : Nat × RdS := if most < (rNum s).1 then (0, rFail 3 (rNum s).2) else rNum s
def rBytes (most : Nat) (s : RdS) : List UInt8 × RdS :=
  if (rUpto most s).2.2 = 0 then (if (rUpto most s).2.1.length < (rUpto most s).1 then ([], (rUpto most s).2.1, 4) else ((rUpto most s).2.1.take (rUpto most s).1, (rUpto most s).2.1.drop (rUpto most s).1, 0)) else ([], (rUpto most s).2)
def rEnd (s : RdS) : RdS := if s.2 = 0 ∧ 0 < s.1.length then (s.1, 3) else s
end SL
end
section
set_option linter.unusedVariables false
set_option linter.unusedSimpArgs false
set_option maxRecDepth 10000
namespace SL
open Go Go.Proofs Go.RowKit
section
variable {P : Program} {fid : Fm} {n : Nat} {post : Post} {k : List Item} {ρ : Env} {L r : List HProp}
theorem TK.ownFact {e sz m cap : Nat} {a : Option Addr} {cs : List Value} (hp : Pick L (own e sz a m cap cs) r) (h : (a = none → cs = []) → TK P fid n post k ρ L) : TK P fid n post k ρ L := fun w0 F a' w css gr st => by
  refine h (fun e => ?_) w0 F a' w css gr st
  rcases st.owned (P := P) hp with ⟨_, _, _, h, _⟩ | ⟨b', extra, h1, _⟩
  · exact h
  · rw [e] at h1; cases h1
end
theorem map_nil {bs : List UInt8} (h : bs.map byteV = []) : bs = [] := by simpa using h
attribute [local irreducible] SL.TK SL.TO SL.TD SL.PV SL.Pick SL.Frm SL.Ent SL.Sub SL.EvAll SL.seps SL.sep SL.Cut SL.PutAt SL.blk SL.EvP SL.Fill SL.Src SL.EntD SL.own SL.ex SL.fact SL.orig
theorem sclone_spec {X : HProp} {a : Option Addr} {cap : Nat} {bs : List UInt8} (hb : RdB X a bs) (hl : bs.length ≤ 1000000000000) : Spec Tryz.prog 112 [.slice a bs.length cap] [X]
    (fun r L => ∃ a' c', r = .slice a' bs.length c' ∧ (a' = none → bs = []) ∧ L = [own 5 1 a' bs.length c' (bs.map byteV), X]) := by
  have hr := hb.rd (cap := cap)
  have h1 := bytes_one bs
  have h0 := Lib.hid hb.none_
  clear hb
  refine SL.Spec.of_TK Go.Proofs.Tryz.func112 rfl rfl SL.call112 rfl ?_
  cases a with
  | none =>
    have e := h0.out rfl
    subst e
    repeat' (first | (refine SL.TO.is ?_; first | (refine SL.W.quick ?_; first | refine SL.W.pass ?_ | refine SL.W.pv ?_ | refine SL.W.pv0 ?_) | refine SL.TO.nil ?_ | (refine SL.TO.nilD ?_; simp only [SL.setB]) | refine SL.W.pass ?_ | refine SL.W.pass0 ?_ | (refine SL.W.pure ?_; first | refine SL.W.pv ?_ | refine SL.W.pv0 ?_) | (refine SL.W.loud ?_; first | refine SL.W.load ?_ | refine SL.W.loadA ?_ | refine SL.W.store ?_ | refine SL.W.storeA ?_ | (refine SL.W.box ?_; intro b) | (refine SL.W.alloc ?_; intro b) | (refine SL.W.buildSlice ?_; intro b) | (refine SL.W.append ?_; intro a cap) | refine SL.W.bytesToStr ?_ | refine SL.W.toIntC ?_ | (refine SL.W.makeSlice ?_; intro b))) | (refine SL.TK.is ?_; first | refine SL.TK.seq ?_ | refine SL.TK.region ?_ | refine SL.TK.regionD SL.mixed (by simp only [SL.falses] <;> rfl) ?_ | refine SL.TK.block ?_ | refine SL.TK.inBlock ?_ | refine SL.TK.skip ?_ | refine SL.TK.scope ?_ | refine SL.TK.inScope ?_ | refine SL.TK.label ?_ | (refine SL.TK.isExit ?_; refine SL.W.exit ?_) | refine SL.W.condT ?_ | refine SL.W.condF ?_) | (refine SL.TD.is ?_; first | (refine SL.W.dfin ?_; simp only [SL.aps]) | refine SL.W.dpass ?_ | refine SL.W.dpure ?_ | refine SL.W.dload ?_ | refine SL.W.dloadA ?_ | refine SL.W.dfrz ?_ | (refine SL.W.dthaw ?_; simp only [SL.aps])) | ((first | refine SL.W.guardP (fun h => ?_) (fun h => ?_) | refine SL.W.condP (fun h => ?_) (fun h => ?_) | refine SL.W.dguardP (fun h => ?_) (fun h => ?_)) <;> (fail_if_success (have : h = trivial := rfl)) <;> (fail_if_success (have : h = not_false := rfl)) <;> first | contradiction | (exfalso; omega) | (exfalso; revert h; simp; done) | skip) | ((first | refine SL.W.guardB (fun h => ?_) (fun h => ?_) | refine SL.W.dguardB (fun h => ?_) (fun h => ?_)) <;> (fail_if_success (have : h = (rfl : true = true) := rfl)) <;> (fail_if_success (have : h = (rfl : false = false) := rfl))) | refine SL.W.condB (fun h => ?_) (fun h => ?_) | (refine SL.TD.is ?_; first | refine SL.W.done ?_ | refine SL.W.dtwo ?_ ?_ | refine SL.W.dthree ?_ ?_ ?_))
    exact SL.TK.retD Tryz.func112 (SL.Res.one rfl (by rfl)) ⟨none, 0, rfl, fun _ => rfl, rfl⟩ (EntD.of_ent (Ent.own_nil Ent.refl))
  | some q =>
    repeat' (first | (refine SL.TO.is ?_; first | (refine SL.W.quick ?_; first | refine SL.W.pass ?_ | refine SL.W.pv ?_ | refine SL.W.pv0 ?_) | refine SL.TO.nil ?_ | (refine SL.TO.nilD ?_; simp only [SL.setB]) | refine SL.W.pass ?_ | refine SL.W.pass0 ?_ | (refine SL.W.pure ?_; first | refine SL.W.pv ?_ | refine SL.W.pv0 ?_) | (refine SL.W.loud ?_; first | refine SL.W.load ?_ | refine SL.W.loadA ?_ | refine SL.W.store ?_ | refine SL.W.storeA ?_ | (refine SL.W.box ?_; intro b) | (refine SL.W.alloc ?_; intro b) | (refine SL.W.buildSlice ?_; intro b) | (refine SL.W.append ?_; intro a cap) | refine SL.W.bytesToStr ?_ | refine SL.W.toIntC ?_ | (refine SL.W.makeSlice ?_; intro b))) | (refine SL.TK.is ?_; first | refine SL.TK.seq ?_ | refine SL.TK.region ?_ | refine SL.TK.regionD SL.mixed (by simp only [SL.falses] <;> rfl) ?_ | refine SL.TK.block ?_ | refine SL.TK.inBlock ?_ | refine SL.TK.skip ?_ | refine SL.TK.scope ?_ | refine SL.TK.inScope ?_ | refine SL.TK.label ?_ | (refine SL.TK.isExit ?_; refine SL.W.exit ?_) | refine SL.W.condT ?_ | refine SL.W.condF ?_) | (refine SL.TD.is ?_; first | (refine SL.W.dfin ?_; simp only [SL.aps]) | refine SL.W.dpass ?_ | refine SL.W.dpure ?_ | refine SL.W.dload ?_ | refine SL.W.dloadA ?_ | refine SL.W.dfrz ?_ | (refine SL.W.dthaw ?_; simp only [SL.aps])) | ((first | refine SL.W.guardP (fun h => ?_) (fun h => ?_) | refine SL.W.condP (fun h => ?_) (fun h => ?_) | refine SL.W.dguardP (fun h => ?_) (fun h => ?_)) <;> (fail_if_success (have : h = trivial := rfl)) <;> (fail_if_success (have : h = not_false := rfl)) <;> first | contradiction | (exfalso; omega) | (exfalso; revert h; simp; done) | skip) | ((first | refine SL.W.guardB (fun h => ?_) (fun h => ?_) | refine SL.W.dguardB (fun h => ?_) (fun h => ?_)) <;> (fail_if_success (have : h = (rfl : true = true) := rfl)) <;> (fail_if_success (have : h = (rfl : false = false) := rfl))) | refine SL.W.condB (fun h => ?_) (fun h => ?_) | (refine SL.TD.is ?_; first | refine SL.W.done ?_ | refine SL.W.dtwo ?_ ?_ | refine SL.W.dthree ?_ ?_ ?_))
    refine SL.TK.ownFact (e := 5) (sz := 1) (by first | ((repeat (first | exact SL.Pick.head | apply SL.Pick.tail)); done) | fail) (fun hn => ?_)
    exact SL.TK.retD Tryz.func112 (SL.Res.one rfl (by rfl)) ⟨_, _, rfl, fun e => map_nil (hn e), rfl⟩ (EntD.cons (by first | ((repeat (first | exact SL.Pick.head | apply SL.Pick.tail)); done) | fail) (EntD.cons (by first | ((repeat (first | exact SL.Pick.head | apply SL.Pick.tail)); done) | fail) EntD.nil))
theorem bclone_spec {X : HProp} {a : Option Addr} {cap : Nat} {bs : List UInt8} (hb : RdB X a bs) (hl : bs.length ≤ 1000000000000) : Spec Tryz.prog 22 [.slice a bs.length cap] [X]
    (fun r L => ∃ a' c', r = .slice a' bs.length c' ∧ (a' = none → bs = []) ∧ L = [own 5 1 a' bs.length c' (bs.map byteV), X]) := by
  have hr := hb.rd (cap := cap)
  have h1 := bytes_one bs
  have h0 := Lib.hid hb.none_
  clear hb
  refine SL.Spec.of_TK Go.Proofs.Tryz.func22 rfl rfl SL.call22 rfl ?_
  cases a with
  | none =>
    have e := h0.out rfl
    subst e
    repeat' (first | (refine SL.TO.is ?_; first | (refine SL.W.quick ?_; first | refine SL.W.pass ?_ | refine SL.W.pv ?_ | refine SL.W.pv0 ?_) | refine SL.TO.nil ?_ | (refine SL.TO.nilD ?_; simp only [SL.setB]) | refine SL.W.pass ?_ | refine SL.W.pass0 ?_ | (refine SL.W.pure ?_; first | refine SL.W.pv ?_ | refine SL.W.pv0 ?_) | (refine SL.W.loud ?_; first | refine SL.W.load ?_ | refine SL.W.loadA ?_ | refine SL.W.store ?_ | refine SL.W.storeA ?_ | (refine SL.W.box ?_; intro b) | (refine SL.W.alloc ?_; intro b) | (refine SL.W.buildSlice ?_; intro b) | (refine SL.W.append ?_; intro a cap) | refine SL.W.bytesToStr ?_ | refine SL.W.toIntC ?_ | (refine SL.W.makeSlice ?_; intro b))) | (refine SL.TK.is ?_; first | refine SL.TK.seq ?_ | refine SL.TK.region ?_ | refine SL.TK.regionD SL.mixed (by simp only [SL.falses] <;> rfl) ?_ | refine SL.TK.block ?_ | refine SL.TK.inBlock ?_ | refine SL.TK.skip ?_ | refine SL.TK.scope ?_ | refine SL.TK.inScope ?_ | refine SL.TK.label ?_ | (refine SL.TK.isExit ?_; refine SL.W.exit ?_) | refine SL.W.condT ?_ | refine SL.W.condF ?_) | (refine SL.TD.is ?_; first | (refine SL.W.dfin ?_; simp only [SL.aps]) | refine SL.W.dpass ?_ | refine SL.W.dpure ?_ | refine SL.W.dload ?_ | refine SL.W.dloadA ?_ | refine SL.W.dfrz ?_ | (refine SL.W.dthaw ?_; simp only [SL.aps])) | ((first | refine SL.W.guardP (fun h => ?_) (fun h => ?_) | refine SL.W.condP (fun h => ?_) (fun h => ?_) | refine SL.W.dguardP (fun h => ?_) (fun h => ?_)) <;> (fail_if_success (have : h = trivial := rfl)) <;> (fail_if_success (have : h = not_false := rfl)) <;> first | contradiction | (exfalso; omega) | (exfalso; revert h; simp; done) | skip) | ((first | refine SL.W.guardB (fun h => ?_) (fun h => ?_) | refine SL.W.dguardB (fun h => ?_) (fun h => ?_)) <;> (fail_if_success (have : h = (rfl : true = true) := rfl)) <;> (fail_if_success (have : h = (rfl : false = false) := rfl))) | refine SL.W.condB (fun h => ?_) (fun h => ?_) | (refine SL.TD.is ?_; first | refine SL.W.done ?_ | refine SL.W.dtwo ?_ ?_ | refine SL.W.dthree ?_ ?_ ?_))
    exact SL.TK.retD Tryz.func22 (SL.Res.one rfl (by rfl)) ⟨none, 0, rfl, fun _ => rfl, rfl⟩ (EntD.of_ent (Ent.own_nil Ent.refl))
  | some q =>
    repeat' (first | (refine SL.TO.is ?_; first | (refine SL.W.quick ?_; first | refine SL.W.pass ?_ | refine SL.W.pv ?_ | refine SL.W.pv0 ?_) | refine SL.TO.nil ?_ | (refine SL.TO.nilD ?_; simp only [SL.setB]) | refine SL.W.pass ?_ | refine SL.W.pass0 ?_ | (refine SL.W.pure ?_; first | refine SL.W.pv ?_ | refine SL.W.pv0 ?_) | (refine SL.W.loud ?_; first | refine SL.W.load ?_ | refine SL.W.loadA ?_ | refine SL.W.store ?_ | refine SL.W.storeA ?_ | (refine SL.W.box ?_; intro b) | (refine SL.W.alloc ?_; intro b) | (refine SL.W.buildSlice ?_; intro b) | (refine SL.W.append ?_; intro a cap) | refine SL.W.bytesToStr ?_ | refine SL.W.toIntC ?_ | (refine SL.W.makeSlice ?_; intro b))) | (refine SL.TK.is ?_; first | refine SL.TK.seq ?_ | refine SL.TK.region ?_ | refine SL.TK.regionD SL.mixed (by simp only [SL.falses] <;> rfl) ?_ | refine SL.TK.block ?_ | refine SL.TK.inBlock ?_ | refine SL.TK.skip ?_ | refine SL.TK.scope ?_ | refine SL.TK.inScope ?_ | refine SL.TK.label ?_ | (refine SL.TK.isExit ?_; refine SL.W.exit ?_) | refine SL.W.condT ?_ | refine SL.W.condF ?_) | (refine SL.TD.is ?_; first | (refine SL.W.dfin ?_; simp only [SL.aps]) | refine SL.W.dpass ?_ | refine SL.W.dpure ?_ | refine SL.W.dload ?_ | refine SL.W.dloadA ?_ | refine SL.W.dfrz ?_ | (refine SL.W.dthaw ?_; simp only [SL.aps])) | ((first | refine SL.W.guardP (fun h => ?_) (fun h => ?_) | refine SL.W.condP (fun h => ?_) (fun h => ?_) | refine SL.W.dguardP (fun h => ?_) (fun h => ?_)) <;> (fail_if_success (have : h = trivial := rfl)) <;> (fail_if_success (have : h = not_false := rfl)) <;> first | contradiction | (exfalso; omega) | (exfalso; revert h; simp; done) | skip) | ((first | refine SL.W.guardB (fun h => ?_) (fun h => ?_) | refine SL.W.dguardB (fun h => ?_) (fun h => ?_)) <;> (fail_if_success (have : h = (rfl : true = true) := rfl)) <;> (fail_if_success (have : h = (rfl : false = false) := rfl))) | refine SL.W.condB (fun h => ?_) (fun h => ?_) | (refine SL.TD.is ?_; first | refine SL.W.done ?_ | refine SL.W.dtwo ?_ ?_ | refine SL.W.dthree ?_ ?_ ?_))
    refine SL.TK.ownFact (e := 5) (sz := 1) (by first | ((repeat (first | exact SL.Pick.head | apply SL.Pick.tail)); done) | fail) (fun hn => ?_)
    exact SL.TK.retD Tryz.func22 (SL.Res.one rfl (by rfl)) ⟨_, _, rfl, fun e => map_nil (hn e), rfl⟩ (EntD.cons (by first | ((repeat (first | exact SL.Pick.head | apply SL.Pick.tail)); done) | fail) (EntD.cons (by first | ((repeat (first | exact SL.Pick.head | apply SL.Pick.tail)); done) | fail) EntD.nil))
theorem joined_spec {X : HProp} {a : Option Addr} {cap : Nat} {bs : List UInt8} (hb : RdB X a bs) (hl : bs.length ≤ 1000000000000) : Spec Tryz.prog 80 [.slice a bs.length cap, .slice none 0 0] [X]
    (fun r L => ∃ a' c', r = .slice a' bs.length c' ∧ L = [own 5 1 a' bs.length c' (bs.map byteV), X]) := by
  have hc := Lib.hid (sclone_spec (cap := cap) hb hl)
  clear hb
  refine SL.Spec.of_TK Go.Proofs.Tryz.func80 rfl rfl SL.call80 rfl ?_
  repeat' (first | (refine SL.TO.is ?_; first | (refine SL.W.quick ?_; first | refine SL.W.pass ?_ | refine SL.W.pv ?_ | refine SL.W.pv0 ?_) | (refine SL.TO.door (o := ⟨_, .call _, _, _, _, _⟩) ?_; first | (refine SL.TO.door (o := ⟨_, .call ⟨.value (.func 112), _, _⟩, _, _, _, _⟩) ?_; first | (refine SL.W.call (hc.out) ?_; rintro _ _ ⟨a1, c1, rfl, _, rfl⟩; try simp only [SL.aps]))) | refine SL.TO.nil ?_ | (refine SL.TO.nilD ?_; simp only [SL.setB]) | refine SL.W.pass ?_ | refine SL.W.pass0 ?_ | (refine SL.W.pure ?_; first | refine SL.W.pv ?_ | refine SL.W.pv0 ?_) | (refine SL.W.loud ?_; first | refine SL.W.load ?_ | refine SL.W.loadA ?_ | refine SL.W.store ?_ | refine SL.W.storeA ?_ | (refine SL.W.box ?_; intro b) | (refine SL.W.alloc ?_; intro b) | (refine SL.W.buildSlice ?_; intro b) | (refine SL.W.append ?_; intro a cap) | refine SL.W.bytesToStr ?_ | refine SL.W.toIntC ?_ | (refine SL.W.makeSlice ?_; intro b))) | (refine SL.TK.is ?_; first | refine SL.TK.seq ?_ | refine SL.TK.region ?_ | refine SL.TK.regionD SL.mixed (by simp only [SL.falses] <;> rfl) ?_ | refine SL.TK.block ?_ | refine SL.TK.inBlock ?_ | refine SL.TK.skip ?_ | refine SL.TK.scope ?_ | refine SL.TK.inScope ?_ | refine SL.TK.label ?_ | (refine SL.TK.isExit ?_; refine SL.W.exit ?_) | refine SL.W.condT ?_ | refine SL.W.condF ?_) | (refine SL.TD.is ?_; first | (refine SL.W.dfin ?_; simp only [SL.aps]) | refine SL.W.dpass ?_ | refine SL.W.dpure ?_ | refine SL.W.dload ?_ | refine SL.W.dloadA ?_ | refine SL.W.dfrz ?_ | (refine SL.W.dthaw ?_; simp only [SL.aps])) | ((first | refine SL.W.guardP (fun h => ?_) (fun h => ?_) | refine SL.W.condP (fun h => ?_) (fun h => ?_) | refine SL.W.dguardP (fun h => ?_) (fun h => ?_)) <;> (fail_if_success (have : h = trivial := rfl)) <;> (fail_if_success (have : h = not_false := rfl)) <;> first | contradiction | (exfalso; omega) | (exfalso; revert h; simp; done) | skip) | ((first | refine SL.W.guardB (fun h => ?_) (fun h => ?_) | refine SL.W.dguardB (fun h => ?_) (fun h => ?_)) <;> (fail_if_success (have : h = (rfl : true = true) := rfl)) <;> (fail_if_success (have : h = (rfl : false = false) := rfl))) | refine SL.W.condB (fun h => ?_) (fun h => ?_) | (refine SL.TD.is ?_; first | refine SL.W.done ?_ | refine SL.W.dtwo ?_ ?_ | refine SL.W.dthree ?_ ?_ ?_))
  exact SL.TK.retD Tryz.func80 (SL.Res.one rfl (by rfl)) ⟨_, _, rfl, rfl⟩ (EntD.cons (by first | ((repeat (first | exact SL.Pick.head | apply SL.Pick.tail)); done) | fail) (EntD.cons (by first | ((repeat (first | exact SL.Pick.head | apply SL.Pick.tail)); done) | fail) EntD.nil))
def putI (X : HProp) (bs : List UInt8) (n0 : Nat) (ρ : Env) (L : List HProp) (m : Nat) : Prop := ∃ (i n : Nat) (acc : List UInt8) (a' : Option Addr) (c' : Nat), i ≤ 9 ∧ acc ++ putF (9 - i) n = bs ++ putN n0 ∧ n < 2 * 128 ^ (9 - i) ∧ acc.length = bs.length + i ∧
  ρ = [(0, .slice a' acc.length c'), (1, .int .u64 n)] ∧ L = [own 5 1 a' acc.length c' (acc.map byteV), X] ∧ m = 9 - i
theorem put_spec {X : HProp} {a : Option Addr} {cap : Nat} {bs : List UInt8} (hb : RdB X a bs) (hl : bs.length ≤ 100000000000) (n0 : Nat) (hn : n0 < 18446744073709551616) : Spec Tryz.prog 58 [.slice a bs.length cap, .int .u64 n0] [X]
    (fun r L => ∃ a' c', r = .slice a' (bs ++ putN n0).length c' ∧ L = [own 5 1 a' (bs ++ putN n0).length c' ((bs ++ putN n0).map byteV), X]) := by
  have hc := Lib.hid (joined_spec (cap := cap) hb (by omega))
  clear hb
  refine SL.Spec.of_TK Go.Proofs.Tryz.func58 rfl rfl SL.call58 rfl ?_
  repeat' (first | (refine SL.TO.is ?_; first | (refine SL.W.quick ?_; first | refine SL.W.pass ?_ | refine SL.W.pv ?_ | refine SL.W.pv0 ?_) | (refine SL.TO.door (o := ⟨_, .call _, _, _, _, _⟩) ?_; first | (refine SL.TO.door (o := ⟨_, .call ⟨.value (.func 80), _, _⟩, _, _, _, _⟩) ?_; first | (refine SL.W.call (hc.out) ?_; rintro _ _ ⟨a1, c1, rfl, rfl⟩; try simp only [SL.aps]))) | refine SL.TO.nil ?_ | (refine SL.TO.nilD ?_; simp only [SL.setB]) | refine SL.W.pass ?_ | refine SL.W.pass0 ?_ | (refine SL.W.pure ?_; first | refine SL.W.pv ?_ | refine SL.W.pv0 ?_) | (refine SL.W.loud ?_; first | refine SL.W.load ?_ | refine SL.W.loadA ?_ | refine SL.W.store ?_ | refine SL.W.storeA ?_ | (refine SL.W.box ?_; intro b) | (refine SL.W.alloc ?_; intro b) | (refine SL.W.buildSlice ?_; intro b) | (refine SL.W.append ?_; intro a cap) | refine SL.W.bytesToStr ?_ | refine SL.W.toIntC ?_ | (refine SL.W.makeSlice ?_; intro b))) | (refine SL.TK.lp ?_; first | (refine SL.TK.block ?_; refine SL.TK.loopD (putI X bs n0) ?_ ⟨0, n0, bs, a1, c1, Nat.zero_le _, rfl, hn, rfl, rfl, rfl, rfl⟩ (by first | ((repeat (first | exact SL.Sub.nil | refine SL.Sub.cons (by rfl) (by first | rfl | exact SL.int_eq (by omega)) ?_)); done) | fail) (EntD.cons (by first | ((repeat (first | exact SL.Pick.head | apply SL.Pick.tail)); done) | fail) (EntD.cons (by first | ((repeat (first | exact SL.Pick.head | apply SL.Pick.tail)); done) | fail) EntD.nil)))) | (refine SL.TK.is ?_; first | refine SL.TK.seq ?_ | refine SL.TK.region ?_ | refine SL.TK.regionD SL.mixed (by simp only [SL.falses] <;> rfl) ?_ | refine SL.TK.block ?_ | refine SL.TK.inBlock ?_ | refine SL.TK.skip ?_ | refine SL.TK.scope ?_ | refine SL.TK.inScope ?_ | refine SL.TK.label ?_ | (refine SL.TK.isExit ?_; refine SL.W.exit ?_) | refine SL.W.condT ?_ | refine SL.W.condF ?_) | (refine SL.TD.is ?_; first | (refine SL.W.dfin ?_; simp only [SL.aps]) | refine SL.W.dpass ?_ | refine SL.W.dpure ?_ | refine SL.W.dload ?_ | refine SL.W.dloadA ?_ | refine SL.W.dfrz ?_ | (refine SL.W.dthaw ?_; simp only [SL.aps])) | ((first | refine SL.W.guardP (fun h => ?_) (fun h => ?_) | refine SL.W.condP (fun h => ?_) (fun h => ?_) | refine SL.W.dguardP (fun h => ?_) (fun h => ?_)) <;> (fail_if_success (have : h = trivial := rfl)) <;> (fail_if_success (have : h = not_false := rfl)) <;> first | contradiction | (exfalso; omega) | (exfalso; revert h; simp; done) | skip) | ((first | refine SL.W.guardB (fun h => ?_) (fun h => ?_) | refine SL.W.dguardB (fun h => ?_) (fun h => ?_)) <;> (fail_if_success (have : h = (rfl : true = true) := rfl)) <;> (fail_if_success (have : h = (rfl : false = false) := rfl))) | refine SL.W.condB (fun h => ?_) (fun h => ?_) | (refine SL.TD.is ?_; first | refine SL.W.done ?_ | refine SL.W.dtwo ?_ ?_ | refine SL.W.dthree ?_ ?_ ?_))
  rintro ρ L m ⟨i, n, acc, a', c', hi, hacc, hlt, hal, rfl, rfl, rfl⟩ ih
  have hA := Lib.hid hacc
  clear hacc hn hc
  by_cases h : n < 128
  · have e : acc ++ [UInt8.ofNat n] = bs ++ putN n0 := by
      have hp : putF (9 - i) n = [UInt8.ofNat n] := by
        cases 9 - i with
        | zero => rfl
        | succ f => simp only [putF]; rw [if_pos h]
      rw [← hA.out, hp]
    have hlen : acc.length + 1 = (bs ++ putN n0).length := by rw [← e]; simp
    have hmap : acc.map byteV ++ [.int .u8 (n : Int)] = (bs ++ putN n0).map byteV := by
      have : byteV (UInt8.ofNat n) = .int .u8 (n : Int) := by unfold byteV; rw [u8n (by omega)]
      rw [← e, ← this]; simp
    have hLM := Lib.hid (And.intro hlen hmap)
    clear e hlt ih hlen hmap
    repeat' (first | (refine SL.TO.is ?_; first | (refine SL.W.quick ?_; first | refine SL.W.pass ?_ | refine SL.W.pv ?_ | refine SL.W.pv0 ?_) | refine SL.TO.nil ?_ | (refine SL.TO.nilD ?_; simp only [SL.setB]) | refine SL.W.pass ?_ | refine SL.W.pass0 ?_ | (refine SL.W.pure ?_; first | refine SL.W.pv ?_ | refine SL.W.pv0 ?_) | (refine SL.W.loud ?_; first | refine SL.W.load ?_ | refine SL.W.loadA ?_ | refine SL.W.store ?_ | refine SL.W.storeA ?_ | (refine SL.W.box ?_; intro b) | (refine SL.W.alloc ?_; intro b) | (refine SL.W.buildSlice ?_; intro b) | (refine SL.W.append ?_; intro a cap) | refine SL.W.bytesToStr ?_ | refine SL.W.toIntC ?_ | (refine SL.W.makeSlice ?_; intro b))) | (refine SL.TK.is ?_; first | refine SL.TK.seq ?_ | refine SL.TK.region ?_ | refine SL.TK.regionD SL.mixed (by simp only [SL.falses] <;> rfl) ?_ | refine SL.TK.block ?_ | refine SL.TK.inBlock ?_ | refine SL.TK.skip ?_ | refine SL.TK.scope ?_ | refine SL.TK.inScope ?_ | refine SL.TK.label ?_ | (refine SL.TK.isExit ?_; refine SL.W.exit ?_) | refine SL.W.condT ?_ | refine SL.W.condF ?_) | (refine SL.TD.is ?_; first | (refine SL.W.dfin ?_; simp only [SL.aps]) | refine SL.W.dpass ?_ | refine SL.W.dpure ?_ | refine SL.W.dload ?_ | refine SL.W.dloadA ?_ | refine SL.W.dfrz ?_ | (refine SL.W.dthaw ?_; simp only [SL.aps])) | ((first | refine SL.W.guardP (fun h => ?_) (fun h => ?_) | refine SL.W.condP (fun h => ?_) (fun h => ?_) | refine SL.W.dguardP (fun h => ?_) (fun h => ?_)) <;> (fail_if_success (have : h = trivial := rfl)) <;> (fail_if_success (have : h = not_false := rfl)) <;> first | contradiction | (exfalso; omega) | (exfalso; revert h; simp; done) | skip) | ((first | refine SL.W.guardB (fun h => ?_) (fun h => ?_) | refine SL.W.dguardB (fun h => ?_) (fun h => ?_)) <;> (fail_if_success (have : h = (rfl : true = true) := rfl)) <;> (fail_if_success (have : h = (rfl : false = false) := rfl))) | refine SL.W.condB (fun h => ?_) (fun h => ?_) | (refine SL.TD.is ?_; first | refine SL.W.done ?_ | refine SL.W.dtwo ?_ ?_ | refine SL.W.dthree ?_ ?_ ?_))
    rw [hLM.out.1, hLM.out.2]
    exact SL.TK.retD Tryz.func58 (SL.Res.one rfl (by rfl)) ⟨_, _, rfl, rfl⟩ (EntD.cons (by first | ((repeat (first | exact SL.Pick.head | apply SL.Pick.tail)); done) | fail) (EntD.cons (by first | ((repeat (first | exact SL.Pick.head | apply SL.Pick.tail)); done) | fail) EntD.nil))
  · have hi8 : i ≤ 8 := by
      by_cases h9 : i = 9
      · subst h9; simp at hlt; omega
      · omega
    obtain ⟨f, hf⟩ : ∃ f, 9 - i = f + 1 := ⟨8 - i, by omega⟩
    have hf' : 9 - (i + 1) = f := by omega
    obtain ⟨cb, hcb⟩ : ∃ cb, cb = UInt8.ofNat (n % 128 + 128) := ⟨_, rfl⟩
    have e : (acc ++ [cb]) ++ putF (9 - (i + 1)) (n / 128) = bs ++ putN n0 := by
      rw [hf', ← hA.out, hf, hcb]
      simp only [putF]
      rw [if_neg h]
      simp
    have hE := Lib.hid e
    have hlt2 : n / 128 < 2 * 128 ^ (9 - (i + 1)) := by
      rw [hf']
      rw [hf, pow128] at hlt
      omega
    have hL2 := Lib.hid hlt2
    have h128 : (128 : Int) ≤ n := by omega
    have hb : Value.int .u8 (orI .u8 (IntKind.u8.wrap (n : Int)) 128) = .int .u8 (cb.toNat : Int) := by
      rw [or128, hcb, u8n (by omega)]
      exact int_eq (by omega)
    have hw := Lib.hid hb
    have hs : Value.int .u64 (shrI .u64 (n : Int) 7) = .int .u64 ((n / 128 : Nat) : Int) := by rw [shr7]
    have hS := Lib.hid hs
    have hmap : acc.map byteV ++ [.int .u8 (cb.toNat : Int)] = (acc ++ [cb]).map byteV := by simp [byteV]
    have hlen : acc.length + 1 = (acc ++ [cb]).length := by simp
    have hLM := Lib.hid (And.intro hlen hmap)
    clear hb hs e hlt hlt2 hf hf' h hmap hlen hcb
    repeat' (first | (refine SL.TO.is ?_; first | (refine SL.W.quick ?_; first | refine SL.W.pass ?_ | refine SL.W.pv ?_ | refine SL.W.pv0 ?_) | (refine SL.TO.door (o := ⟨_, .buildSlice _ _ _, _, _, _, _⟩) ?_; first | (refine SL.TO.slot (d := 14) (by rfl) hw.out ?_; refine SL.W.buildSlice ?_; intro b)) | refine SL.TO.nil ?_ | (refine SL.TO.nilD ?_; simp only [SL.setB]) | refine SL.W.pass ?_ | refine SL.W.pass0 ?_ | (refine SL.W.pure ?_; first | refine SL.W.pv ?_ | refine SL.W.pv0 ?_) | (refine SL.W.loud ?_; first | refine SL.W.load ?_ | refine SL.W.loadA ?_ | refine SL.W.store ?_ | refine SL.W.storeA ?_ | (refine SL.W.box ?_; intro b) | (refine SL.W.alloc ?_; intro b) | (refine SL.W.buildSlice ?_; intro b) | (refine SL.W.append ?_; intro a cap) | refine SL.W.bytesToStr ?_ | refine SL.W.toIntC ?_ | (refine SL.W.makeSlice ?_; intro b))) | (refine SL.TK.is ?_; first | refine SL.TK.seq ?_ | refine SL.TK.region ?_ | refine SL.TK.regionD SL.mixed (by simp only [SL.falses] <;> rfl) ?_ | refine SL.TK.block ?_ | refine SL.TK.inBlock ?_ | refine SL.TK.skip ?_ | refine SL.TK.scope ?_ | refine SL.TK.inScope ?_ | refine SL.TK.label ?_ | (refine SL.TK.isExit ?_; refine SL.W.exit ?_) | refine SL.W.condT ?_ | refine SL.W.condF ?_) | (refine SL.TD.is ?_; first | (refine SL.W.dfin ?_; simp only [SL.aps]) | refine SL.W.dpass ?_ | refine SL.W.dpure ?_ | refine SL.W.dload ?_ | refine SL.W.dloadA ?_ | refine SL.W.dfrz ?_ | (refine SL.W.dthaw ?_; simp only [SL.aps])) | ((first | refine SL.W.guardP (fun h => ?_) (fun h => ?_) | refine SL.W.condP (fun h => ?_) (fun h => ?_) | refine SL.W.dguardP (fun h => ?_) (fun h => ?_)) <;> (fail_if_success (have : h = trivial := rfl)) <;> (fail_if_success (have : h = not_false := rfl)) <;> first | contradiction | (exfalso; omega) | (exfalso; revert h; simp; done) | skip) | ((first | refine SL.W.guardB (fun h => ?_) (fun h => ?_) | refine SL.W.dguardB (fun h => ?_) (fun h => ?_)) <;> (fail_if_success (have : h = (rfl : true = true) := rfl)) <;> (fail_if_success (have : h = (rfl : false = false) := rfl))) | refine SL.W.condB (fun h => ?_) (fun h => ?_) | (refine SL.TD.is ?_; first | refine SL.W.done ?_ | refine SL.W.dtwo ?_ ?_ | refine SL.W.dthree ?_ ?_ ?_))
    rw [hLM.out.1, hLM.out.2]
    refine SL.TK.againD ih ⟨i + 1, n / 128, acc ++ [cb], a, cap, by omega, hE.out, hL2.out, by simp; omega, rfl, rfl, rfl⟩ (by refine Sub.cons (by rfl) rfl (Sub.cons (by rfl) hS.out Sub.nil)) (EntD.cons (by first | ((repeat (first | exact SL.Pick.head | apply SL.Pick.tail)); done) | fail) (EntD.cons (by first | ((repeat (first | exact SL.Pick.head | apply SL.Pick.tail)); done) | fail) EntD.nil)) (by omega)
theorem lt_mul {a c p k : Nat} (ha : a < p) (hc : c + 1 ≤ k) : a + c * p < k * p := by
  have := Nat.mul_le_mul_right p hc
  rw [Nat.add_mul, Nat.one_mul] at this
  omega
def getI (X : HProp) (a : Option Addr) (cap : Nat) (bs : List UInt8) (ρ : Env) (L : List HProp) (m : Nat) : Prop := ∃ (i acc : Nat) (V : Value), i ≤ min bs.length 10 ∧ getG (10 - i) (bs.drop i) i acc = getN bs ∧ (i ≤ 9 → V = .int .u64 acc ∧ acc < 128 ^ i) ∧
  ρ = [(0, .slice a bs.length cap), (5, V), (12, .slice a (min bs.length 10) cap), (13, .int .i64 (min bs.length 10 : Nat)), (14, .int .i64 i)] ∧ L = [X] ∧ m = 10 - i
theorem get_spec {X : HProp} {a : Option Addr} {cap : Nat} {bs : List UInt8} (hb : RdB X a bs) (hl : bs.length ≤ 1000000000000) (hcap : bs.length ≤ cap) : Spec Tryz.prog 92 [.slice a bs.length cap] [X]
    (fun r L => r = .tuple #[.int .u64 (getN bs).1, .int .i64 (getN bs).2.1, .int .i64 (getN bs).2.2] ∧ L = [X]) := by
  have hmin : min (bs.length : Int) 10 = ((min bs.length 10 : Nat) : Int) := by omega
  have hB := Lib.hid hb
  clear hb
  refine SL.Spec.of_TK Go.Proofs.Tryz.func92 rfl rfl SL.call92 rfl ?_
  repeat' (first | (refine SL.TO.is ?_; first | (refine SL.W.quick ?_; first | refine SL.W.pass ?_ | refine SL.W.pv ?_ | refine SL.W.pv0 ?_) | refine SL.TO.nil ?_ | (refine SL.TO.nilD ?_; simp only [SL.setB]) | refine SL.W.pass ?_ | refine SL.W.pass0 ?_ | (refine SL.W.pure ?_; first | (refine SL.TO.door (o := ⟨_, .call ⟨.builtin .min, _, _⟩, _, _, _, _⟩) ?_; refine SL.W.pvn (SL.PV.minI (by rfl) (by rfl) hmin) ?_) | refine SL.W.pv ?_ | refine SL.W.pv0 ?_) | (refine SL.W.loud ?_; first | refine SL.W.load ?_ | refine SL.W.loadA ?_ | refine SL.W.store ?_ | refine SL.W.storeA ?_ | (refine SL.W.box ?_; intro b) | (refine SL.W.alloc ?_; intro b) | (refine SL.W.buildSlice ?_; intro b) | (refine SL.W.append ?_; intro a cap) | refine SL.W.bytesToStr ?_ | refine SL.W.toIntC ?_ | (refine SL.W.makeSlice ?_; intro b))) | (refine SL.TK.lp ?_; first | (refine SL.TK.block ?_; refine SL.TK.loopD (getI X a cap bs) ?_ ⟨0, 0, .int .u64 0, Nat.zero_le _, rfl, fun _ => ⟨rfl, by decide⟩, rfl, rfl, rfl⟩ (by first | ((repeat (first | exact SL.Sub.nil | refine SL.Sub.cons (by rfl) (by first | rfl | exact SL.int_eq (by omega)) ?_)); done) | fail) (EntD.cons (by first | ((repeat (first | exact SL.Pick.head | apply SL.Pick.tail)); done) | fail) EntD.nil))) | (refine SL.TK.is ?_; first | refine SL.TK.seq ?_ | refine SL.TK.region ?_ | refine SL.TK.regionD SL.mixed (by simp only [SL.falses] <;> rfl) ?_ | refine SL.TK.block ?_ | refine SL.TK.inBlock ?_ | refine SL.TK.skip ?_ | refine SL.TK.scope ?_ | refine SL.TK.inScope ?_ | refine SL.TK.label ?_ | (refine SL.TK.isExit ?_; refine SL.W.exit ?_) | refine SL.W.condT ?_ | refine SL.W.condF ?_) | (refine SL.TD.is ?_; first | (refine SL.W.dfin ?_; simp only [SL.aps]) | refine SL.W.dpass ?_ | refine SL.W.dpure ?_ | refine SL.W.dload ?_ | refine SL.W.dloadA ?_ | refine SL.W.dfrz ?_ | (refine SL.W.dthaw ?_; simp only [SL.aps])) | ((first | refine SL.W.guardP (fun h => ?_) (fun h => ?_) | refine SL.W.condP (fun h => ?_) (fun h => ?_) | refine SL.W.dguardP (fun h => ?_) (fun h => ?_)) <;> (fail_if_success (have : h = trivial := rfl)) <;> (fail_if_success (have : h = not_false := rfl)) <;> first | contradiction | (exfalso; omega) | (exfalso; revert h; simp; done) | skip) | ((first | refine SL.W.guardB (fun h => ?_) (fun h => ?_) | refine SL.W.dguardB (fun h => ?_) (fun h => ?_)) <;> (fail_if_success (have : h = (rfl : true = true) := rfl)) <;> (fail_if_success (have : h = (rfl : false = false) := rfl))) | refine SL.W.condB (fun h => ?_) (fun h => ?_) | (refine SL.TD.is ?_; first | refine SL.W.done ?_ | refine SL.W.dtwo ?_ ?_ | refine SL.W.dthree ?_ ?_ ?_))
  rintro ρ L m ⟨i, acc, V, hi, hg, hV, rfl, rfl, rfl⟩ ih
  by_cases h : i < min bs.length 10
  · have hlt : i < bs.length := by omega
    obtain ⟨rfl, hacc⟩ := hV (by omega)
    obtain ⟨q, rfl⟩ : ∃ q, a = some q := by
      cases a with
      | none => have := hB.out.none_ rfl; subst this; simp at hlt
      | some q => exact ⟨q, rfl⟩
    have hcell := hB.out.byte hlt
    have hdrop : bs.drop i = bs[i] :: bs.drop (i + 1) := List.drop_eq_getElem_cons hlt
    obtain ⟨c, hc⟩ : ∃ c, c = bs[i] := ⟨_, rfl⟩
    rw [← hc] at hcell hdrop
    have hc256 := UInt8.toNat_lt c
    obtain ⟨f, hf⟩ : ∃ f, 10 - i = f + 1 := ⟨9 - i, by omega⟩
    rw [hf, hdrop] at hg
    simp only [getG] at hg
    have hAN := andNot128 c
    obtain ⟨S, hSh⟩ : ∃ S, shlI .u64 ((c.toNat % 128 : Nat) : Int) (7 * (i : Int)) = S := ⟨_, rfl⟩
    obtain ⟨V, hOr⟩ : ∃ V, orI .u64 (acc : Int) S = V := ⟨_, rfl⟩
    have hVal : i ≤ 8 ∨ c.toNat ≤ 1 → V = ((acc + c.toNat % 128 * 128 ^ i : Nat) : Int) := by
      intro h
      have hb : acc + c.toNat % 128 * 128 ^ i < 18446744073709551616 := by
        rcases h with h | h
        · have hp : 128 ^ i ≤ 128 ^ 8 := Nat.pow_le_pow_right (by decide) h
          exact Nat.lt_of_lt_of_le (lt_mul hacc (k := 128) (by omega)) (Nat.le_trans (Nat.mul_le_mul_left 128 hp) (by decide))
        · have hp : 128 ^ i ≤ 128 ^ 9 := Nat.pow_le_pow_right (by decide) (by omega)
          exact Nat.lt_of_lt_of_le (lt_mul hacc (k := 2) (by omega)) (Nat.le_trans (Nat.mul_le_mul_left 2 hp) (by decide))
      rw [← hOr, ← hSh, shl7 (by omega) (by omega), or_add hacc hb]
    have hVH := Lib.hid hVal
    have hAcc := Lib.hid hacc
    have hf9 : f = 9 - i := by omega
    subst hf9
    clear hV hdrop hVal hacc hf hmin hc
    by_cases h128 : 128 ≤ c.toNat
    · rw [if_pos h128] at hg
      have hG := Lib.hid hg
      clear hg
      repeat' (first | (refine SL.TO.is ?_; first | (refine SL.W.quick ?_; first | refine SL.W.pass ?_ | refine SL.W.pv ?_ | refine SL.W.pv0 ?_) | (refine SL.TO.door (o := ⟨_, .load _ _, _, _, _, _⟩) ?_; first | refine SL.W.loadX hcell rfl ?_) | refine SL.TO.nil ?_ | (refine SL.TO.nilD ?_; simp only [SL.setB]) | refine SL.W.pass ?_ | refine SL.W.pass0 ?_ | (refine SL.W.pure ?_; first | (refine SL.TO.door (o := ⟨_, .binOp _ _ _ _ _, _, _, _, _⟩) ?_; first | (refine SL.TO.door (o := ⟨_, .binOp .andNot _ _ _ _, _, _, _, _⟩) ?_; refine SL.W.pvn (SL.PV.andNot (by rfl) (by rfl) hAN) ?_) | (refine SL.TO.door (o := ⟨_, .binOp .shl _ _ _ _, _, _, _, _⟩) ?_; refine SL.W.pvn (SL.PV.shl (by rfl) (by rfl) (by omega) hSh) ?_) | (refine SL.TO.door (o := ⟨_, .binOp .or _ _ _ _, _, _, _, _⟩) ?_; refine SL.W.pvn (SL.PV.or (by rfl) (by rfl) hOr) ?_)) | refine SL.W.pv ?_ | refine SL.W.pv0 ?_) | (refine SL.W.loud ?_; first | refine SL.W.load ?_ | refine SL.W.loadA ?_ | refine SL.W.store ?_ | refine SL.W.storeA ?_ | (refine SL.W.box ?_; intro b) | (refine SL.W.alloc ?_; intro b) | (refine SL.W.buildSlice ?_; intro b) | (refine SL.W.append ?_; intro a cap) | refine SL.W.bytesToStr ?_ | refine SL.W.toIntC ?_ | (refine SL.W.makeSlice ?_; intro b))) | (refine SL.TK.is ?_; first | refine SL.TK.seq ?_ | refine SL.TK.region ?_ | refine SL.TK.regionD SL.mixed (by simp only [SL.falses] <;> rfl) ?_ | refine SL.TK.block ?_ | refine SL.TK.inBlock ?_ | refine SL.TK.skip ?_ | refine SL.TK.scope ?_ | refine SL.TK.inScope ?_ | refine SL.TK.label ?_ | (refine SL.TK.isExit ?_; refine SL.W.exit ?_) | refine SL.W.condT ?_ | refine SL.W.condF ?_) | (refine SL.TD.is ?_; first | (refine SL.W.dfin ?_; simp only [SL.aps]) | refine SL.W.dpass ?_ | refine SL.W.dpure ?_ | refine SL.W.dload ?_ | refine SL.W.dloadA ?_ | refine SL.W.dfrz ?_ | (refine SL.W.dthaw ?_; simp only [SL.aps])) | ((first | refine SL.W.guardP (fun h => ?_) (fun h => ?_) | refine SL.W.condP (fun h => ?_) (fun h => ?_) | refine SL.W.dguardP (fun h => ?_) (fun h => ?_)) <;> (fail_if_success (have : h = trivial := rfl)) <;> (fail_if_success (have : h = not_false := rfl)) <;> first | contradiction | (exfalso; omega) | (exfalso; revert h; simp; done) | skip) | ((first | refine SL.W.guardB (fun h => ?_) (fun h => ?_) | refine SL.W.dguardB (fun h => ?_) (fun h => ?_)) <;> (fail_if_success (have : h = (rfl : true = true) := rfl)) <;> (fail_if_success (have : h = (rfl : false = false) := rfl))) | refine SL.W.condB (fun h => ?_) (fun h => ?_) | (refine SL.TD.is ?_; first | refine SL.W.done ?_ | refine SL.W.dtwo ?_ ?_ | refine SL.W.dthree ?_ ?_ ?_))
      have e10 : 10 - (i + 1) = 9 - i := by omega
      have em : c.toNat % 128 = c.toNat - 128 := by omega
      refine SL.TK.againD ih ⟨i + 1, acc + (c.toNat - 128) * 128 ^ i, .int .u64 V, by omega, by rw [e10]; exact hG.out, fun h9 => ?_, rfl, rfl, rfl⟩ (by first | ((repeat (first | exact SL.Sub.nil | refine SL.Sub.cons (by rfl) (by first | rfl | exact SL.int_eq (by omega)) ?_)); done) | fail) (EntD.cons (by first | ((repeat (first | exact SL.Pick.head | apply SL.Pick.tail)); done) | fail) EntD.nil) (by omega)
      rw [hVH.out (.inl (by omega)), em]
      refine ⟨rfl, ?_⟩
      have ha := hAcc.out
      rw [pow128]
      have : (c.toNat - 128) * 128 ^ i ≤ 127 * 128 ^ i := Nat.mul_le_mul_right _ (by omega)
      omega
    · rw [if_neg h128] at hg
      by_cases he : (c.toNat = 0 ∧ 0 < i) ∨ (i = 9 ∧ 1 < c.toNat)
      · rw [if_pos he] at hg
        have hG := Lib.hid hg
        clear hg ih
        repeat' (first | (refine SL.TO.is ?_; first | (refine SL.W.quick ?_; first | refine SL.W.pass ?_ | refine SL.W.pv ?_ | refine SL.W.pv0 ?_) | (refine SL.TO.door (o := ⟨_, .load _ _, _, _, _, _⟩) ?_; first | refine SL.W.loadX hcell rfl ?_) | refine SL.TO.nil ?_ | (refine SL.TO.nilD ?_; simp only [SL.setB]) | refine SL.W.pass ?_ | refine SL.W.pass0 ?_ | (refine SL.W.pure ?_; first | (refine SL.TO.door (o := ⟨_, .binOp _ _ _ _ _, _, _, _, _⟩) ?_; first | (refine SL.TO.door (o := ⟨_, .binOp .andNot _ _ _ _, _, _, _, _⟩) ?_; refine SL.W.pvn (SL.PV.andNot (by rfl) (by rfl) hAN) ?_) | (refine SL.TO.door (o := ⟨_, .binOp .shl _ _ _ _, _, _, _, _⟩) ?_; refine SL.W.pvn (SL.PV.shl (by rfl) (by rfl) (by omega) hSh) ?_) | (refine SL.TO.door (o := ⟨_, .binOp .or _ _ _ _, _, _, _, _⟩) ?_; refine SL.W.pvn (SL.PV.or (by rfl) (by rfl) hOr) ?_)) | refine SL.W.pv ?_ | refine SL.W.pv0 ?_) | (refine SL.W.loud ?_; first | refine SL.W.load ?_ | refine SL.W.loadA ?_ | refine SL.W.store ?_ | refine SL.W.storeA ?_ | (refine SL.W.box ?_; intro b) | (refine SL.W.alloc ?_; intro b) | (refine SL.W.buildSlice ?_; intro b) | (refine SL.W.append ?_; intro a cap) | refine SL.W.bytesToStr ?_ | refine SL.W.toIntC ?_ | (refine SL.W.makeSlice ?_; intro b))) | (refine SL.TK.is ?_; first | refine SL.TK.seq ?_ | refine SL.TK.region ?_ | refine SL.TK.regionD SL.mixed (by simp only [SL.falses] <;> rfl) ?_ | refine SL.TK.block ?_ | refine SL.TK.inBlock ?_ | refine SL.TK.skip ?_ | refine SL.TK.scope ?_ | refine SL.TK.inScope ?_ | refine SL.TK.label ?_ | (refine SL.TK.isExit ?_; refine SL.W.exit ?_) | refine SL.W.condT ?_ | refine SL.W.condF ?_) | (refine SL.TD.is ?_; first | (refine SL.W.dfin ?_; simp only [SL.aps]) | refine SL.W.dpass ?_ | refine SL.W.dpure ?_ | refine SL.W.dload ?_ | refine SL.W.dloadA ?_ | refine SL.W.dfrz ?_ | (refine SL.W.dthaw ?_; simp only [SL.aps])) | ((first | refine SL.W.guardP (fun h => ?_) (fun h => ?_) | refine SL.W.condP (fun h => ?_) (fun h => ?_) | refine SL.W.dguardP (fun h => ?_) (fun h => ?_)) <;> (fail_if_success (have : h = trivial := rfl)) <;> (fail_if_success (have : h = not_false := rfl)) <;> first | contradiction | (exfalso; omega) | (exfalso; revert h; simp; done) | skip) | ((first | refine SL.W.guardB (fun h => ?_) (fun h => ?_) | refine SL.W.dguardB (fun h => ?_) (fun h => ?_)) <;> (fail_if_success (have : h = (rfl : true = true) := rfl)) <;> (fail_if_success (have : h = (rfl : false = false) := rfl))) | refine SL.W.condB (fun h => ?_) (fun h => ?_) | (refine SL.TD.is ?_; first | refine SL.W.done ?_ | refine SL.W.dtwo ?_ ?_ | refine SL.W.dthree ?_ ?_ ?_))
        all_goals
          rw [← hG.out]
          exact SL.TK.retD Tryz.func92 (SL.Res.three rfl (by rfl) (by rfl) (by rfl)) ⟨rfl, rfl⟩ EntD.refl
      · rw [if_neg he] at hg
        have hG := Lib.hid hg
        have hv := hVH.out (by omega)
        have em : c.toNat % 128 = c.toNat := by omega
        rw [em] at hv
        have hvH := Lib.hid hv
        clear hg ih hv em
        repeat' (first | (refine SL.TO.is ?_; first | (refine SL.W.quick ?_; first | refine SL.W.pass ?_ | refine SL.W.pv ?_ | refine SL.W.pv0 ?_) | (refine SL.TO.door (o := ⟨_, .load _ _, _, _, _, _⟩) ?_; first | refine SL.W.loadX hcell rfl ?_) | refine SL.TO.nil ?_ | (refine SL.TO.nilD ?_; simp only [SL.setB]) | refine SL.W.pass ?_ | refine SL.W.pass0 ?_ | (refine SL.W.pure ?_; first | (refine SL.TO.door (o := ⟨_, .binOp _ _ _ _ _, _, _, _, _⟩) ?_; first | (refine SL.TO.door (o := ⟨_, .binOp .andNot _ _ _ _, _, _, _, _⟩) ?_; refine SL.W.pvn (SL.PV.andNot (by rfl) (by rfl) hAN) ?_) | (refine SL.TO.door (o := ⟨_, .binOp .shl _ _ _ _, _, _, _, _⟩) ?_; refine SL.W.pvn (SL.PV.shl (by rfl) (by rfl) (by omega) hSh) ?_) | (refine SL.TO.door (o := ⟨_, .binOp .or _ _ _ _, _, _, _, _⟩) ?_; refine SL.W.pvn (SL.PV.or (by rfl) (by rfl) hOr) ?_)) | refine SL.W.pv ?_ | refine SL.W.pv0 ?_) | (refine SL.W.loud ?_; first | refine SL.W.load ?_ | refine SL.W.loadA ?_ | refine SL.W.store ?_ | refine SL.W.storeA ?_ | (refine SL.W.box ?_; intro b) | (refine SL.W.alloc ?_; intro b) | (refine SL.W.buildSlice ?_; intro b) | (refine SL.W.append ?_; intro a cap) | refine SL.W.bytesToStr ?_ | refine SL.W.toIntC ?_ | (refine SL.W.makeSlice ?_; intro b))) | (refine SL.TK.is ?_; first | refine SL.TK.seq ?_ | refine SL.TK.region ?_ | refine SL.TK.regionD SL.mixed (by simp only [SL.falses] <;> rfl) ?_ | refine SL.TK.block ?_ | refine SL.TK.inBlock ?_ | refine SL.TK.skip ?_ | refine SL.TK.scope ?_ | refine SL.TK.inScope ?_ | refine SL.TK.label ?_ | (refine SL.TK.isExit ?_; refine SL.W.exit ?_) | refine SL.W.condT ?_ | refine SL.W.condF ?_) | (refine SL.TD.is ?_; first | (refine SL.W.dfin ?_; simp only [SL.aps]) | refine SL.W.dpass ?_ | refine SL.W.dpure ?_ | refine SL.W.dload ?_ | refine SL.W.dloadA ?_ | refine SL.W.dfrz ?_ | (refine SL.W.dthaw ?_; simp only [SL.aps])) | ((first | refine SL.W.guardP (fun h => ?_) (fun h => ?_) | refine SL.W.condP (fun h => ?_) (fun h => ?_) | refine SL.W.dguardP (fun h => ?_) (fun h => ?_)) <;> (fail_if_success (have : h = trivial := rfl)) <;> (fail_if_success (have : h = not_false := rfl)) <;> first | contradiction | (exfalso; omega) | (exfalso; revert h; simp; done) | skip) | ((first | refine SL.W.guardB (fun h => ?_) (fun h => ?_) | refine SL.W.dguardB (fun h => ?_) (fun h => ?_)) <;> (fail_if_success (have : h = (rfl : true = true) := rfl)) <;> (fail_if_success (have : h = (rfl : false = false) := rfl))) | refine SL.W.condB (fun h => ?_) (fun h => ?_) | (refine SL.TD.is ?_; first | refine SL.W.done ?_ | refine SL.W.dtwo ?_ ?_ | refine SL.W.dthree ?_ ?_ ?_))
        all_goals
          rw [← hG.out]
          have hv2 := hvH.out
          subst hv2
          exact SL.TK.retD Tryz.func92 (SL.Res.three rfl (by rfl) (by rfl) (by rfl)) ⟨rfl, rfl⟩ EntD.refl
  · have hG := Lib.hid hg
    have h14 : i = min bs.length 10 := by omega
    clear ih hV hmin hg
    by_cases h10 : bs.length < 10
    · have : getN bs = (0, 0, 4) := by
        rw [← hG.out]
        have e1 : bs.drop i = [] := List.drop_eq_nil_of_le (by omega)
        obtain ⟨f, hf⟩ : ∃ f, 10 - i = f + 1 := ⟨9 - i, by omega⟩
        rw [e1, hf]; rfl
      repeat' (first | (refine SL.TO.is ?_; first | (refine SL.W.quick ?_; first | refine SL.W.pass ?_ | refine SL.W.pv ?_ | refine SL.W.pv0 ?_) | refine SL.TO.nil ?_ | (refine SL.TO.nilD ?_; simp only [SL.setB]) | refine SL.W.pass ?_ | refine SL.W.pass0 ?_ | (refine SL.W.pure ?_; first | refine SL.W.pv ?_ | refine SL.W.pv0 ?_) | (refine SL.W.loud ?_; first | refine SL.W.load ?_ | refine SL.W.loadA ?_ | refine SL.W.store ?_ | refine SL.W.storeA ?_ | (refine SL.W.box ?_; intro b) | (refine SL.W.alloc ?_; intro b) | (refine SL.W.buildSlice ?_; intro b) | (refine SL.W.append ?_; intro a cap) | refine SL.W.bytesToStr ?_ | refine SL.W.toIntC ?_ | (refine SL.W.makeSlice ?_; intro b))) | (refine SL.TK.is ?_; first | refine SL.TK.seq ?_ | refine SL.TK.region ?_ | refine SL.TK.regionD SL.mixed (by simp only [SL.falses] <;> rfl) ?_ | refine SL.TK.block ?_ | refine SL.TK.inBlock ?_ | refine SL.TK.skip ?_ | refine SL.TK.scope ?_ | refine SL.TK.inScope ?_ | refine SL.TK.label ?_ | (refine SL.TK.isExit ?_; refine SL.W.exit ?_) | refine SL.W.condT ?_ | refine SL.W.condF ?_) | (refine SL.TD.is ?_; first | (refine SL.W.dfin ?_; simp only [SL.aps]) | refine SL.W.dpass ?_ | refine SL.W.dpure ?_ | refine SL.W.dload ?_ | refine SL.W.dloadA ?_ | refine SL.W.dfrz ?_ | (refine SL.W.dthaw ?_; simp only [SL.aps])) | ((first | refine SL.W.guardP (fun h => ?_) (fun h => ?_) | refine SL.W.condP (fun h => ?_) (fun h => ?_) | refine SL.W.dguardP (fun h => ?_) (fun h => ?_)) <;> (fail_if_success (have : h = trivial := rfl)) <;> (fail_if_success (have : h = not_false := rfl)) <;> first | contradiction | (exfalso; omega) | (exfalso; revert h; simp; done) | skip) | ((first | refine SL.W.guardB (fun h => ?_) (fun h => ?_) | refine SL.W.dguardB (fun h => ?_) (fun h => ?_)) <;> (fail_if_success (have : h = (rfl : true = true) := rfl)) <;> (fail_if_success (have : h = (rfl : false = false) := rfl))) | refine SL.W.condB (fun h => ?_) (fun h => ?_) | (refine SL.TD.is ?_; first | refine SL.W.done ?_ | refine SL.W.dtwo ?_ ?_ | refine SL.W.dthree ?_ ?_ ?_))
      rw [this]
      exact SL.TK.retD Tryz.func92 (SL.Res.three rfl (by rfl) (by rfl) (by rfl)) ⟨rfl, rfl⟩ EntD.refl
    · have : getN bs = (0, 0, 5) := by
        rw [← hG.out]
        have hf : 10 - i = 0 := by omega
        rw [hf]; rfl
      repeat' (first | (refine SL.TO.is ?_; first | (refine SL.W.quick ?_; first | refine SL.W.pass ?_ | refine SL.W.pv ?_ | refine SL.W.pv0 ?_) | refine SL.TO.nil ?_ | (refine SL.TO.nilD ?_; simp only [SL.setB]) | refine SL.W.pass ?_ | refine SL.W.pass0 ?_ | (refine SL.W.pure ?_; first | refine SL.W.pv ?_ | refine SL.W.pv0 ?_) | (refine SL.W.loud ?_; first | refine SL.W.load ?_ | refine SL.W.loadA ?_ | refine SL.W.store ?_ | refine SL.W.storeA ?_ | (refine SL.W.box ?_; intro b) | (refine SL.W.alloc ?_; intro b) | (refine SL.W.buildSlice ?_; intro b) | (refine SL.W.append ?_; intro a cap) | refine SL.W.bytesToStr ?_ | refine SL.W.toIntC ?_ | (refine SL.W.makeSlice ?_; intro b))) | (refine SL.TK.is ?_; first | refine SL.TK.seq ?_ | refine SL.TK.region ?_ | refine SL.TK.regionD SL.mixed (by simp only [SL.falses] <;> rfl) ?_ | refine SL.TK.block ?_ | refine SL.TK.inBlock ?_ | refine SL.TK.skip ?_ | refine SL.TK.scope ?_ | refine SL.TK.inScope ?_ | refine SL.TK.label ?_ | (refine SL.TK.isExit ?_; refine SL.W.exit ?_) | refine SL.W.condT ?_ | refine SL.W.condF ?_) | (refine SL.TD.is ?_; first | (refine SL.W.dfin ?_; simp only [SL.aps]) | refine SL.W.dpass ?_ | refine SL.W.dpure ?_ | refine SL.W.dload ?_ | refine SL.W.dloadA ?_ | refine SL.W.dfrz ?_ | (refine SL.W.dthaw ?_; simp only [SL.aps])) | ((first | refine SL.W.guardP (fun h => ?_) (fun h => ?_) | refine SL.W.condP (fun h => ?_) (fun h => ?_) | refine SL.W.dguardP (fun h => ?_) (fun h => ?_)) <;> (fail_if_success (have : h = trivial := rfl)) <;> (fail_if_success (have : h = not_false := rfl)) <;> first | contradiction | (exfalso; omega) | (exfalso; revert h; simp; done) | skip) | ((first | refine SL.W.guardB (fun h => ?_) (fun h => ?_) | refine SL.W.dguardB (fun h => ?_) (fun h => ?_)) <;> (fail_if_success (have : h = (rfl : true = true) := rfl)) <;> (fail_if_success (have : h = (rfl : false = false) := rfl))) | refine SL.W.condB (fun h => ?_) (fun h => ?_) | (refine SL.TD.is ?_; first | refine SL.W.done ?_ | refine SL.W.dtwo ?_ ?_ | refine SL.W.dthree ?_ ?_ ?_))
      rw [this]
      exact SL.TK.retD Tryz.func92 (SL.Res.three rfl (by rfl) (by rfl) (by rfl)) ⟨rfl, rfl⟩ EntD.refl
theorem beq_spec {X Y : HProp} {L : List HProp} {a b : Option Addr} {cap cap' : Nat} {bs cs : List UInt8} (hb : RdB X a bs) (hc : RdB Y b cs) : Spec Tryz.prog 26 [.slice a bs.length cap, .slice b cs.length cap'] [X, Y]
    (fun r L => r = .bool (decide (bs = cs)) ∧ L = [X, Y]) := by
  have hr := hb.rd (cap := cap)
  have hs := hc.rd (cap := cap')
  clear hb hc
  refine SL.Spec.of_TK Go.Proofs.Tryz.func26 rfl rfl SL.call26 rfl ?_
  repeat' (first | (refine SL.TO.is ?_; first | (refine SL.W.quick ?_; first | refine SL.W.pass ?_ | refine SL.W.pv ?_ | refine SL.W.pv0 ?_) | refine SL.TO.nil ?_ | (refine SL.TO.nilD ?_; simp only [SL.setB]) | refine SL.W.pass ?_ | refine SL.W.pass0 ?_ | (refine SL.W.pure ?_; first | refine SL.W.pv ?_ | refine SL.W.pv0 ?_) | (refine SL.W.loud ?_; first | refine SL.W.load ?_ | refine SL.W.loadA ?_ | refine SL.W.store ?_ | refine SL.W.storeA ?_ | (refine SL.W.box ?_; intro b) | (refine SL.W.alloc ?_; intro b) | (refine SL.W.buildSlice ?_; intro b) | (refine SL.W.append ?_; intro a cap) | refine SL.W.bytesToStr ?_ | refine SL.W.toIntC ?_ | (refine SL.W.makeSlice ?_; intro b))) | (refine SL.TK.is ?_; first | refine SL.TK.seq ?_ | refine SL.TK.region ?_ | refine SL.TK.regionD SL.mixed (by simp only [SL.falses] <;> rfl) ?_ | refine SL.TK.block ?_ | refine SL.TK.inBlock ?_ | refine SL.TK.skip ?_ | refine SL.TK.scope ?_ | refine SL.TK.inScope ?_ | refine SL.TK.label ?_ | (refine SL.TK.isExit ?_; refine SL.W.exit ?_) | refine SL.W.condT ?_ | refine SL.W.condF ?_) | (refine SL.TD.is ?_; first | (refine SL.W.dfin ?_; simp only [SL.aps]) | refine SL.W.dpass ?_ | refine SL.W.dpure ?_ | refine SL.W.dload ?_ | refine SL.W.dloadA ?_ | refine SL.W.dfrz ?_ | (refine SL.W.dthaw ?_; simp only [SL.aps])) | ((first | refine SL.W.guardP (fun h => ?_) (fun h => ?_) | refine SL.W.condP (fun h => ?_) (fun h => ?_) | refine SL.W.dguardP (fun h => ?_) (fun h => ?_)) <;> (fail_if_success (have : h = trivial := rfl)) <;> (fail_if_success (have : h = not_false := rfl)) <;> first | contradiction | (exfalso; omega) | (exfalso; revert h; simp; done) | skip) | ((first | refine SL.W.guardB (fun h => ?_) (fun h => ?_) | refine SL.W.dguardB (fun h => ?_) (fun h => ?_)) <;> (fail_if_success (have : h = (rfl : true = true) := rfl)) <;> (fail_if_success (have : h = (rfl : false = false) := rfl))) | refine SL.W.condB (fun h => ?_) (fun h => ?_) | (refine SL.TD.is ?_; first | refine SL.W.done ?_ | refine SL.W.dtwo ?_ ?_ | refine SL.W.dthree ?_ ?_ ?_))
  exact SL.TK.retD Tryz.func26 (SL.Res.one rfl (by rfl)) ⟨by simp only [strOf_toList], rfl⟩ EntD.refl
end SL
end
section
set_option linter.unusedVariables false
set_option linter.unusedSimpArgs false
set_option maxRecDepth 10000
namespace SL
open Go Go.Proofs Go.RowKit
def WrAt (wb : Nat) (bs : List UInt8) : HProp := SL.ex fun p : Option Addr × Nat => seps [SL.blk wb 71 [.slice p.1 bs.length p.2], own 5 1 p.1 bs.length p.2 (bs.map byteV)]
theorem wr_shut {wb c : Nat} {a : Option Addr} {bs : List UInt8} : ∀ h, seps [SL.blk wb 71 [.slice a bs.length c], own 5 1 a bs.length c (bs.map byteV)] h → WrAt wb bs h := fun h x => ⟨(a, c), x⟩
structure RdOk (g : Hp) (a : Option Addr) (cap : Nat) (bs : List UInt8) : Prop where
  rd : RdG g a (bs.map byteV)
  le : bs.length ≤ cap
  bd : bs.length ≤ 10000000000
def RdAt (rb : Nat) (s : RdS) : HProp := SL.ex fun p : Option Addr × Nat × Hp => seps [SL.fact (RdOk p.2.2 p.1 p.2.1 s.1), SL.blk rb 173 [.slice p.1 s.1.length p.2.1, .int .i64 s.2, .bool true], RO p.2.2]
theorem rd_shut {rb cap : Nat} {a : Option Addr} {g : Hp} {s : RdS} (hok : RdOk g a cap s.1) : ∀ h, seps [SL.blk rb 173 [.slice a s.1.length cap, .int .i64 s.2, .bool true], RO g] h → RdAt rb s h := fun h x => ⟨(a, cap, g), sep_fact.2 ⟨hok, x⟩⟩
section
variable {P : Program} {fid : Fm} {n : Nat} {post : Post} {k : List Item} {ρ : Env} {L L' r : List HProp}
theorem TK.freeze {e sz m cap : Nat} {a : Option Addr} {cs : List Value} {g : Hp} (hp : Frm L [own e sz a m cap cs, RO g] r) (h : ∀ g', HLe g g' → RdG g' a cs → m ≤ cap → TK P fid n post k ρ (RO g' :: r)) : TK P fid n post k ρ L := fun w0 F a' w css gr st => by
  have hmc : m ≤ cap := by
    rcases (st.frame hp).owned (P := P) Pick.head with ⟨_, h1, h2, _⟩ | ⟨_, _, _, _, _, h4, _⟩ <;> omega
  refine TK.openEx (L' := fun p : {g' : Hp // HLe g g' ∧ RdG g' a cs} => RO p.1 :: r) (fun hh x => ?_) (fun p => h p.1 p.2.1 p.2.2 hmc) w0 F a' w css gr st
  obtain ⟨h1, h2, d, rfl, y1, y2⟩ := hp hh x
  obtain ⟨g', q1, q2, q3⟩ := ro_own y1
  exact ⟨⟨g', q1, q2⟩, h1, h2, d, rfl, q3, y2⟩
theorem TK.freezeNew {e sz m cap : Nat} {a : Option Addr} {cs : List Value} (hp : Pick L (own e sz a m cap cs) r) (h : ∀ g', RdG g' a cs → m ≤ cap → TK P fid n post k ρ (RO g' :: r)) : TK P fid n post k ρ L :=
  TK.entD ro_new (TK.freeze (Frm.cons (Pick.tail hp) (Frm.cons Pick.head Frm.nil)) fun g' _ h2 h3 => h g' h2 h3)
theorem TK.openWr {wb : Nat} {bs : List UInt8} (hp : Pick L (WrAt wb bs) r) (h : ∀ a c, (a = none → bs = []) → TK P fid n post k ρ (SL.blk wb 71 [.slice a bs.length c] :: own 5 1 a bs.length c (bs.map byteV) :: r)) : TK P fid n post k ρ L :=
  TK.exC hp fun p => TK.sepsC Pick.head (TK.ownFact (e := 5) (sz := 1) (Pick.tail Pick.head) fun hn => h p.1 p.2 fun e => map_nil (hn e))
theorem TK.openRd {rb : Nat} {s : RdS} (hp : Pick L (RdAt rb s) r) (h : ∀ a cap g, RdOk g a cap s.1 → TK P fid n post k ρ (SL.blk rb 173 [.slice a s.1.length cap, .int .i64 s.2, .bool true] :: RO g :: r)) : TK P fid n post k ρ L :=
  TK.exC hp fun p => TK.sepsC Pick.head (TK.fact Pick.head fun hok => h p.1 p.2.1 p.2.2 hok)
end
theorem RdOk.drop {g : Hp} {a : Option Addr} {cap : Nat} {bs : List UInt8} (h : RdOk g a cap bs) {s : Nat} (hs : s ≤ bs.length) : RdOk g (if cap = s then a else a.map (·.add (s * 1))) (cap - s) (bs.drop s) := by
  refine ⟨?_, by have := h.le; simp; omega, by have := h.bd; simp; omega⟩
  split
  · rename_i e
    have := h.le
    have e2 : bs.drop s = [] := List.drop_eq_nil_of_le (by omega)
    rw [e2]
    exact ⟨fun _ => rfl, fun q hq j x hx => by simp at hx⟩
  · cases a with
    | none =>
      have := h.rd.1 rfl
      have e2 : bs = [] := by simpa using this
      subst e2
      exact ⟨fun _ => by simp, fun q hq j x hx => by simp at hx⟩
    | some p =>
      refine ⟨fun c => by simp at c, fun q hq j x hx => ?_⟩
      simp only [Option.map_some, Nat.mul_one, Option.some.injEq] at hq
      subst hq
      rw [add_add]
      refine h.rd.2 p rfl (s + j) x ?_
      rw [List.map_drop, List.getElem?_drop] at hx
      exact hx
attribute [local irreducible] SL.TK SL.TO SL.TD SL.PV SL.Pick SL.Frm SL.Ent SL.Sub SL.EvAll SL.seps SL.sep SL.Cut SL.PutAt SL.blk SL.EvP SL.Fill SL.Src SL.EntD SL.own SL.ex SL.fact SL.orig
theorem wNum_spec (wb : Nat) (bs : List UInt8) (hl : bs.length ≤ 100000000000) (n : Nat) (hn : n < 18446744073709551616) : Spec Tryz.prog 35 [.pointer (some ⟨wb, 0, none⟩), .int .u64 n] [WrAt wb bs] (fun r L => r = .tuple #[] ∧ L = [WrAt wb (bs ++ putN n)]) := by
  refine SL.Spec.of_TK Go.Proofs.Tryz.func35 rfl rfl SL.call35 rfl ?_
  refine SL.TK.openWr (by first | ((repeat (first | exact SL.Pick.head | apply SL.Pick.tail)); done) | fail) (fun a c h0 => ?_)
  have hp := Lib.hid (put_spec (X := own 5 1 a bs.length c (bs.map byteV)) (cap := c) (RdB.own h0) hl n hn)
  repeat' (first | (refine SL.TO.is ?_; first | (refine SL.TO.door (o := ⟨_, .call ⟨.value (.func 58), _, _⟩, _, _, _, _⟩) ?_; first | (refine SL.W.call (hp.out) ?_; rintro _ _ ⟨a1, c1, rfl, rfl⟩; try simp only [SL.aps])) | refine SL.TO.nil ?_ | (refine SL.TO.nilD ?_; simp only [SL.setB]) | refine SL.W.pass ?_ | refine SL.W.pass0 ?_ | (refine SL.W.pure ?_; first | refine SL.W.pv ?_ | refine SL.W.pv0 ?_) | (refine SL.W.loud ?_; first | refine SL.W.load ?_ | refine SL.W.loadA ?_ | refine SL.W.store ?_ | refine SL.W.storeA ?_ | (refine SL.W.box ?_; intro b) | (refine SL.W.alloc ?_; intro b) | (refine SL.W.buildSlice ?_; intro b) | (refine SL.W.append ?_; intro a cap) | refine SL.W.bytesToStr ?_ | refine SL.W.toIntC ?_ | (refine SL.W.makeSlice ?_; intro b))) | (refine SL.TK.is ?_; first | refine SL.TK.seq ?_ | refine SL.TK.region ?_ | refine SL.TK.regionD SL.mixed (by simp only [SL.falses] <;> rfl) ?_ | refine SL.TK.block ?_ | refine SL.TK.inBlock ?_ | refine SL.TK.skip ?_ | refine SL.TK.scope ?_ | refine SL.TK.inScope ?_ | refine SL.TK.label ?_ | refine SL.W.exit ?_ | refine SL.W.condT ?_ | refine SL.W.condF ?_) | (refine SL.TD.is ?_; first | (refine SL.W.dfin ?_; simp only [SL.aps]) | refine SL.W.dpass ?_ | refine SL.W.dpure ?_ | refine SL.W.dload ?_ | refine SL.W.dloadA ?_ | refine SL.W.dfrz ?_ | (refine SL.W.dthaw ?_; simp only [SL.aps])) | ((first | refine SL.W.guardP (fun h => ?_) (fun h => ?_) | refine SL.W.condP (fun h => ?_) (fun h => ?_) | refine SL.W.dguardP (fun h => ?_) (fun h => ?_)) <;> (fail_if_success (have : h = trivial := rfl)) <;> (fail_if_success (have : h = not_false := rfl)) <;> first | contradiction | (exfalso; omega) | (exfalso; revert h; simp; done) | skip) | ((first | refine SL.W.guardB (fun h => ?_) (fun h => ?_) | refine SL.W.dguardB (fun h => ?_) (fun h => ?_)) <;> (fail_if_success (have : h = (rfl : true = true) := rfl)) <;> (fail_if_success (have : h = (rfl : false = false) := rfl))) | refine SL.W.condB (fun h => ?_) (fun h => ?_) | (refine SL.TD.is ?_; first | refine SL.W.done ?_ | refine SL.W.dtwo ?_ ?_ | refine SL.W.dthree ?_ ?_ ?_))
  exact SL.TK.finD Tryz.func35 (SL.Res.none rfl) ⟨rfl, rfl⟩ (EntD.frm (by first | ((repeat (first | exact SL.Frm.nil | exact SL.Frm.refl | (apply SL.Frm.cons; repeat (first | exact SL.Pick.head | apply SL.Pick.tail)))); done) | fail) wr_shut EntD.nil)
theorem wBytes_spec {X : HProp} {a : Option Addr} {cap : Nat} {cs : List UInt8} (hb : RdB X a cs) (wb : Nat) (bs : List UInt8) (hl : bs.length ≤ 10000000000) (hc : cs.length ≤ 10000000000) : Spec Tryz.prog 32 [.pointer (some ⟨wb, 0, none⟩), .slice a cs.length cap] [WrAt wb bs, X]
    (fun r L => r = .tuple #[] ∧ L = [WrAt wb (bs ++ putN cs.length ++ cs), X]) := by
  have hr := hb.rd (cap := cap)
  have h1 := bytes_one cs
  have hn := Lib.hid (wNum_spec wb bs (by omega) cs.length (by omega))
  have hpl := (putN_len cs.length).2
  obtain ⟨ds, hds⟩ : ∃ ds, ds = bs ++ putN cs.length := ⟨_, rfl⟩
  rw [← hds] at hn
  have hdl : ds.length ≤ 100000000000 := by rw [hds]; simp; omega
  rw [← hds]
  clear hb hds
  refine SL.Spec.of_TK Go.Proofs.Tryz.func32 rfl rfl SL.call32 rfl ?_
  have hmap : ds.map byteV ++ cs.map byteV = (ds ++ cs).map byteV := by simp
  have hlen : ds.length + cs.length = (ds ++ cs).length := by simp
  have hH := Lib.hid (And.intro hlen hmap)
  clear hlen hmap
  repeat' (first | (refine SL.TO.is ?_; first | (refine SL.TO.door (o := ⟨_, .call ⟨.value (.func 35), _, _⟩, _, _, _, _⟩) ?_; first | (refine SL.W.call (hn.out) ?_; rintro _ _ ⟨rfl, rfl⟩; try simp only [SL.aps])) | refine SL.TO.nil ?_ | (refine SL.TO.nilD ?_; simp only [SL.setB]) | refine SL.W.pass ?_ | refine SL.W.pass0 ?_ | (refine SL.W.pure ?_; first | refine SL.W.pv ?_ | refine SL.W.pv0 ?_) | (refine SL.W.loud ?_; first | refine SL.W.load ?_ | refine SL.W.loadA ?_ | refine SL.W.store ?_ | refine SL.W.storeA ?_ | (refine SL.W.box ?_; intro b) | (refine SL.W.alloc ?_; intro b) | (refine SL.W.buildSlice ?_; intro b) | (refine SL.W.append ?_; intro a cap) | refine SL.W.bytesToStr ?_ | refine SL.W.toIntC ?_ | (refine SL.W.makeSlice ?_; intro b))) | (refine SL.TK.is ?_; first | refine SL.TK.openWr (bs := ds) (by first | ((repeat (first | exact SL.Pick.head | apply SL.Pick.tail)); done) | fail) (fun a1 c1 h01 => ?_) | refine SL.TK.seq ?_ | refine SL.TK.region ?_ | refine SL.TK.regionD SL.mixed (by simp only [SL.falses] <;> rfl) ?_ | refine SL.TK.block ?_ | refine SL.TK.inBlock ?_ | refine SL.TK.skip ?_ | refine SL.TK.scope ?_ | refine SL.TK.inScope ?_ | refine SL.TK.label ?_ | refine SL.W.exit ?_ | refine SL.W.condT ?_ | refine SL.W.condF ?_) | (refine SL.TD.is ?_; first | (refine SL.W.dfin ?_; simp only [SL.aps]) | refine SL.W.dpass ?_ | refine SL.W.dpure ?_ | refine SL.W.dload ?_ | refine SL.W.dloadA ?_ | refine SL.W.dfrz ?_ | (refine SL.W.dthaw ?_; simp only [SL.aps])) | ((first | refine SL.W.guardP (fun h => ?_) (fun h => ?_) | refine SL.W.condP (fun h => ?_) (fun h => ?_) | refine SL.W.dguardP (fun h => ?_) (fun h => ?_)) <;> (fail_if_success (have : h = trivial := rfl)) <;> (fail_if_success (have : h = not_false := rfl)) <;> first | contradiction | (exfalso; omega) | (exfalso; revert h; simp; done) | skip) | ((first | refine SL.W.guardB (fun h => ?_) (fun h => ?_) | refine SL.W.dguardB (fun h => ?_) (fun h => ?_)) <;> (fail_if_success (have : h = (rfl : true = true) := rfl)) <;> (fail_if_success (have : h = (rfl : false = false) := rfl))) | refine SL.W.condB (fun h => ?_) (fun h => ?_) | (refine SL.TD.is ?_; first | refine SL.W.done ?_ | refine SL.W.dtwo ?_ ?_ | refine SL.W.dthree ?_ ?_ ?_))
  rw [hH.out.1, hH.out.2]
  exact SL.TK.finD Tryz.func32 (SL.Res.none rfl) ⟨rfl, rfl⟩ (EntD.frm (by first | ((repeat (first | exact SL.Frm.nil | exact SL.Frm.refl | (apply SL.Frm.cons; repeat (first | exact SL.Pick.head | apply SL.Pick.tail)))); done) | fail) wr_shut (EntD.cons (by first | ((repeat (first | exact SL.Pick.head | apply SL.Pick.tail)); done) | fail) EntD.nil))
theorem wOut_spec (wb : Nat) (bs : List UInt8) (hl : bs.length ≤ 1000000000000) : Spec Tryz.prog 37 [.pointer (some ⟨wb, 0, none⟩)] [WrAt wb bs] (fun r L => ∃ a c, r = .slice a bs.length c ∧ (a = none → bs = []) ∧ L = [own 5 1 a bs.length c (bs.map byteV)]) := by
  refine SL.Spec.of_TK Go.Proofs.Tryz.func37 rfl rfl SL.call37 rfl ?_
  refine SL.TK.openWr (by first | ((repeat (first | exact SL.Pick.head | apply SL.Pick.tail)); done) | fail) (fun a c h0 => ?_)
  have hp := Lib.hid (bclone_spec (X := own 5 1 a bs.length c (bs.map byteV)) (cap := c) (RdB.own h0) hl)
  repeat' (first | (refine SL.TO.is ?_; first | (refine SL.TO.door (o := ⟨_, .call ⟨.value (.func 22), _, _⟩, _, _, _, _⟩) ?_; first | (refine SL.W.call (hp.out) ?_; rintro _ _ ⟨a1, c1, rfl, ha1, rfl⟩; try simp only [SL.aps])) | refine SL.TO.nil ?_ | (refine SL.TO.nilD ?_; simp only [SL.setB]) | refine SL.W.pass ?_ | refine SL.W.pass0 ?_ | (refine SL.W.pure ?_; first | refine SL.W.pv ?_ | refine SL.W.pv0 ?_) | (refine SL.W.loud ?_; first | refine SL.W.load ?_ | refine SL.W.loadA ?_ | refine SL.W.store ?_ | refine SL.W.storeA ?_ | (refine SL.W.box ?_; intro b) | (refine SL.W.alloc ?_; intro b) | (refine SL.W.buildSlice ?_; intro b) | (refine SL.W.append ?_; intro a cap) | refine SL.W.bytesToStr ?_ | refine SL.W.toIntC ?_ | (refine SL.W.makeSlice ?_; intro b))) | (refine SL.TK.is ?_; first | refine SL.TK.seq ?_ | refine SL.TK.region ?_ | refine SL.TK.regionD SL.mixed (by simp only [SL.falses] <;> rfl) ?_ | refine SL.TK.block ?_ | refine SL.TK.inBlock ?_ | refine SL.TK.skip ?_ | refine SL.TK.scope ?_ | refine SL.TK.inScope ?_ | refine SL.TK.label ?_ | refine SL.W.exit ?_ | refine SL.W.condT ?_ | refine SL.W.condF ?_) | (refine SL.TD.is ?_; first | (refine SL.W.dfin ?_; simp only [SL.aps]) | refine SL.W.dpass ?_ | refine SL.W.dpure ?_ | refine SL.W.dload ?_ | refine SL.W.dloadA ?_ | refine SL.W.dfrz ?_ | (refine SL.W.dthaw ?_; simp only [SL.aps])) | ((first | refine SL.W.guardP (fun h => ?_) (fun h => ?_) | refine SL.W.condP (fun h => ?_) (fun h => ?_) | refine SL.W.dguardP (fun h => ?_) (fun h => ?_)) <;> (fail_if_success (have : h = trivial := rfl)) <;> (fail_if_success (have : h = not_false := rfl)) <;> first | contradiction | (exfalso; omega) | (exfalso; revert h; simp; done) | skip) | ((first | refine SL.W.guardB (fun h => ?_) (fun h => ?_) | refine SL.W.dguardB (fun h => ?_) (fun h => ?_)) <;> (fail_if_success (have : h = (rfl : true = true) := rfl)) <;> (fail_if_success (have : h = (rfl : false = false) := rfl))) | refine SL.W.condB (fun h => ?_) (fun h => ?_) | (refine SL.TD.is ?_; first | refine SL.W.done ?_ | refine SL.W.dtwo ?_ ?_ | refine SL.W.dthree ?_ ?_ ?_))
  exact SL.TK.retD Tryz.func37 (SL.Res.one rfl (by rfl)) ⟨_, _, rfl, ha1, rfl⟩ (EntD.cons (by first | ((repeat (first | exact SL.Pick.head | apply SL.Pick.tail)); done) | fail) EntD.nil)
theorem rNew_spec {X : HProp} {a : Option Addr} {cap : Nat} {bs : List UInt8} (hb : RdB X a bs) (hl : bs.length ≤ 10000000000) : Spec Tryz.prog 62 [.slice a bs.length cap] [X]
    (fun r L => ∃ rb, r = .pointer (some ⟨rb, 0, none⟩) ∧ L = [RdAt rb (bs, 0), X]) := by
  have hc := Lib.hid (bclone_spec (cap := cap) hb (by omega))
  clear hb
  refine SL.Spec.of_TK Go.Proofs.Tryz.func62 rfl rfl SL.call62 rfl ?_
  repeat' (first | (refine SL.TO.is ?_; first | (refine SL.TO.door (o := ⟨_, .call ⟨.value (.func 22), _, _⟩, _, _, _, _⟩) ?_; first | (refine SL.W.call (hc.out) ?_; rintro _ _ ⟨a1, c1, rfl, ha1, rfl⟩; try simp only [SL.aps])) | refine SL.TO.nil ?_ | (refine SL.TO.nilD ?_; simp only [SL.setB]) | refine SL.W.pass ?_ | refine SL.W.pass0 ?_ | (refine SL.W.pure ?_; first | refine SL.W.pv ?_ | refine SL.W.pv0 ?_) | (refine SL.W.loud ?_; first | refine SL.W.load ?_ | refine SL.W.loadA ?_ | refine SL.W.store ?_ | refine SL.W.storeA ?_ | (refine SL.W.box ?_; intro b) | (refine SL.W.alloc ?_; intro b) | (refine SL.W.buildSlice ?_; intro b) | (refine SL.W.append ?_; intro a cap) | refine SL.W.bytesToStr ?_ | refine SL.W.toIntC ?_ | (refine SL.W.makeSlice ?_; intro b))) | (refine SL.TK.is ?_; first | refine SL.TK.seq ?_ | refine SL.TK.region ?_ | refine SL.TK.regionD SL.mixed (by simp only [SL.falses] <;> rfl) ?_ | refine SL.TK.block ?_ | refine SL.TK.inBlock ?_ | refine SL.TK.skip ?_ | refine SL.TK.scope ?_ | refine SL.TK.inScope ?_ | refine SL.TK.label ?_ | refine SL.W.exit ?_ | refine SL.W.condT ?_ | refine SL.W.condF ?_) | (refine SL.TD.is ?_; first | (refine SL.W.dfin ?_; simp only [SL.aps]) | refine SL.W.dpass ?_ | refine SL.W.dpure ?_ | refine SL.W.dload ?_ | refine SL.W.dloadA ?_ | refine SL.W.dfrz ?_ | (refine SL.W.dthaw ?_; simp only [SL.aps])) | ((first | refine SL.W.guardP (fun h => ?_) (fun h => ?_) | refine SL.W.condP (fun h => ?_) (fun h => ?_) | refine SL.W.dguardP (fun h => ?_) (fun h => ?_)) <;> (fail_if_success (have : h = trivial := rfl)) <;> (fail_if_success (have : h = not_false := rfl)) <;> first | contradiction | (exfalso; omega) | (exfalso; revert h; simp; done) | skip) | ((first | refine SL.W.guardB (fun h => ?_) (fun h => ?_) | refine SL.W.dguardB (fun h => ?_) (fun h => ?_)) <;> (fail_if_success (have : h = (rfl : true = true) := rfl)) <;> (fail_if_success (have : h = (rfl : false = false) := rfl))) | refine SL.W.condB (fun h => ?_) (fun h => ?_) | (refine SL.TD.is ?_; first | refine SL.W.done ?_ | refine SL.W.dtwo ?_ ?_ | refine SL.W.dthree ?_ ?_ ?_))
  refine SL.TK.freezeNew (e := 5) (sz := 1) (by first | ((repeat (first | exact SL.Pick.head | apply SL.Pick.tail)); done) | fail) (fun g hg hc1 => ?_)
  exact SL.TK.retD Tryz.func62 (SL.Res.one rfl (by rfl)) ⟨_, rfl, rfl⟩ (EntD.frm (by first | ((repeat (first | exact SL.Frm.nil | exact SL.Frm.refl | (apply SL.Frm.cons; repeat (first | exact SL.Pick.head | apply SL.Pick.tail)))); done) | fail) (rd_shut (s := (bs, 0)) ⟨hg, hc1, hl⟩) (EntD.cons (by first | ((repeat (first | exact SL.Pick.head | apply SL.Pick.tail)); done) | fail) EntD.nil))
theorem rErr_spec (rb : Nat) (s : RdS) : Spec Tryz.prog 93 [.pointer (some ⟨rb, 0, none⟩)] [RdAt rb s] (fun r L => r = .int .i64 s.2 ∧ L = [RdAt rb s]) := by
  refine SL.Spec.of_TK Go.Proofs.Tryz.func93 rfl rfl SL.call93 rfl ?_
  refine SL.TK.openRd (by first | ((repeat (first | exact SL.Pick.head | apply SL.Pick.tail)); done) | fail) (fun a cap g hok => ?_)
  repeat' (first | (refine SL.TO.is ?_; first | refine SL.TO.nil ?_ | (refine SL.TO.nilD ?_; simp only [SL.setB]) | refine SL.W.pass ?_ | refine SL.W.pass0 ?_ | (refine SL.W.pure ?_; first | refine SL.W.pv ?_ | refine SL.W.pv0 ?_) | (refine SL.W.loud ?_; first | refine SL.W.load ?_ | refine SL.W.loadA ?_ | refine SL.W.store ?_ | refine SL.W.storeA ?_ | (refine SL.W.box ?_; intro b) | (refine SL.W.alloc ?_; intro b) | (refine SL.W.buildSlice ?_; intro b) | (refine SL.W.append ?_; intro a cap) | refine SL.W.bytesToStr ?_ | refine SL.W.toIntC ?_ | (refine SL.W.makeSlice ?_; intro b))) | (refine SL.TK.is ?_; first | refine SL.TK.seq ?_ | refine SL.TK.region ?_ | refine SL.TK.regionD SL.mixed (by simp only [SL.falses] <;> rfl) ?_ | refine SL.TK.block ?_ | refine SL.TK.inBlock ?_ | refine SL.TK.skip ?_ | refine SL.TK.scope ?_ | refine SL.TK.inScope ?_ | refine SL.TK.label ?_ | refine SL.W.exit ?_ | refine SL.W.condT ?_ | refine SL.W.condF ?_) | (refine SL.TD.is ?_; first | (refine SL.W.dfin ?_; simp only [SL.aps]) | refine SL.W.dpass ?_ | refine SL.W.dpure ?_ | refine SL.W.dload ?_ | refine SL.W.dloadA ?_ | refine SL.W.dfrz ?_ | (refine SL.W.dthaw ?_; simp only [SL.aps])) | ((first | refine SL.W.guardP (fun h => ?_) (fun h => ?_) | refine SL.W.condP (fun h => ?_) (fun h => ?_) | refine SL.W.dguardP (fun h => ?_) (fun h => ?_)) <;> (fail_if_success (have : h = trivial := rfl)) <;> (fail_if_success (have : h = not_false := rfl)) <;> first | contradiction | (exfalso; omega) | (exfalso; revert h; simp; done) | skip) | ((first | refine SL.W.guardB (fun h => ?_) (fun h => ?_) | refine SL.W.dguardB (fun h => ?_) (fun h => ?_)) <;> (fail_if_success (have : h = (rfl : true = true) := rfl)) <;> (fail_if_success (have : h = (rfl : false = false) := rfl))) | refine SL.W.condB (fun h => ?_) (fun h => ?_) | (refine SL.TD.is ?_; first | refine SL.W.done ?_ | refine SL.W.dtwo ?_ ?_ | refine SL.W.dthree ?_ ?_ ?_))
  exact SL.TK.retD Tryz.func93 (SL.Res.one rfl (by rfl)) ⟨rfl, rfl⟩ (EntD.frm (by first | ((repeat (first | exact SL.Frm.nil | exact SL.Frm.refl | (apply SL.Frm.cons; repeat (first | exact SL.Pick.head | apply SL.Pick.tail)))); done) | fail) (rd_shut hok) EntD.nil)
theorem rFail_spec (rb : Nat) (s : RdS) (e : Int) : Spec Tryz.prog 64 [.pointer (some ⟨rb, 0, none⟩), .int .i64 e] [RdAt rb s] (fun r L => r = .tuple #[] ∧ L = [RdAt rb (rFail e s)]) := by
  have he := Lib.hid (rErr_spec rb s)
  refine SL.Spec.of_TK Go.Proofs.Tryz.func64 rfl rfl SL.call64 rfl ?_
  by_cases h : s.2 = 0
  · repeat' (first | (refine SL.TO.is ?_; first | (refine SL.TO.door (o := ⟨_, .call ⟨.value (.func 93), _, _⟩, _, _, _, _⟩) ?_; first | ((refine SL.W.call (he.out) ?_; rintro _ _ ⟨rfl, rfl⟩; try simp only [SL.aps]); clear he)) | refine SL.TO.nil ?_ | (refine SL.TO.nilD ?_; simp only [SL.setB]) | refine SL.W.pass ?_ | refine SL.W.pass0 ?_ | (refine SL.W.pure ?_; first | refine SL.W.pv ?_ | refine SL.W.pv0 ?_) | (refine SL.W.loud ?_; first | refine SL.W.load ?_ | refine SL.W.loadA ?_ | refine SL.W.store ?_ | refine SL.W.storeA ?_ | (refine SL.W.box ?_; intro b) | (refine SL.W.alloc ?_; intro b) | (refine SL.W.buildSlice ?_; intro b) | (refine SL.W.append ?_; intro a cap) | refine SL.W.bytesToStr ?_ | refine SL.W.toIntC ?_ | (refine SL.W.makeSlice ?_; intro b))) | (refine SL.TK.is ?_; first | ((fail_if_success have := he); refine SL.TK.openRd (by first | ((repeat (first | exact SL.Pick.head | apply SL.Pick.tail)); done) | fail) (fun a cap g hok => ?_)) | refine SL.TK.seq ?_ | refine SL.TK.region ?_ | refine SL.TK.regionD SL.mixed (by simp only [SL.falses] <;> rfl) ?_ | refine SL.TK.block ?_ | refine SL.TK.inBlock ?_ | refine SL.TK.skip ?_ | refine SL.TK.scope ?_ | refine SL.TK.inScope ?_ | refine SL.TK.label ?_ | refine SL.W.exit ?_ | refine SL.W.condT ?_ | refine SL.W.condF ?_) | (refine SL.TD.is ?_; first | (refine SL.W.dfin ?_; simp only [SL.aps]) | refine SL.W.dpass ?_ | refine SL.W.dpure ?_ | refine SL.W.dload ?_ | refine SL.W.dloadA ?_ | refine SL.W.dfrz ?_ | (refine SL.W.dthaw ?_; simp only [SL.aps])) | ((first | refine SL.W.guardP (fun h => ?_) (fun h => ?_) | refine SL.W.condP (fun h => ?_) (fun h => ?_) | refine SL.W.dguardP (fun h => ?_) (fun h => ?_)) <;> (fail_if_success (have : h = trivial := rfl)) <;> (fail_if_success (have : h = not_false := rfl)) <;> first | contradiction | (exfalso; omega) | (exfalso; revert h; simp; done) | skip) | ((first | refine SL.W.guardB (fun h => ?_) (fun h => ?_) | refine SL.W.dguardB (fun h => ?_) (fun h => ?_)) <;> (fail_if_success (have : h = (rfl : true = true) := rfl)) <;> (fail_if_success (have : h = (rfl : false = false) := rfl))) | refine SL.W.condB (fun h => ?_) (fun h => ?_) | (refine SL.TD.is ?_; first | refine SL.W.done ?_ | refine SL.W.dtwo ?_ ?_ | refine SL.W.dthree ?_ ?_ ?_))
    have hf : rFail e s = (s.1, e) := by unfold rFail; rw [if_pos h]
    rw [hf]
    exact SL.TK.finD Tryz.func64 (SL.Res.none rfl) ⟨rfl, rfl⟩ (EntD.frm (by first | ((repeat (first | exact SL.Frm.nil | exact SL.Frm.refl | (apply SL.Frm.cons; repeat (first | exact SL.Pick.head | apply SL.Pick.tail)))); done) | fail) (rd_shut (s := (s.1, e)) hok) EntD.nil)
  · repeat' (first | (refine SL.TO.is ?_; first | (refine SL.TO.door (o := ⟨_, .call ⟨.value (.func 93), _, _⟩, _, _, _, _⟩) ?_; first | ((refine SL.W.call (he.out) ?_; rintro _ _ ⟨rfl, rfl⟩; try simp only [SL.aps]))) | refine SL.TO.nil ?_ | (refine SL.TO.nilD ?_; simp only [SL.setB]) | refine SL.W.pass ?_ | refine SL.W.pass0 ?_ | (refine SL.W.pure ?_; first | refine SL.W.pv ?_ | refine SL.W.pv0 ?_) | (refine SL.W.loud ?_; first | refine SL.W.load ?_ | refine SL.W.loadA ?_ | refine SL.W.store ?_ | refine SL.W.storeA ?_ | (refine SL.W.box ?_; intro b) | (refine SL.W.alloc ?_; intro b) | (refine SL.W.buildSlice ?_; intro b) | (refine SL.W.append ?_; intro a cap) | refine SL.W.bytesToStr ?_ | refine SL.W.toIntC ?_ | (refine SL.W.makeSlice ?_; intro b))) | (refine SL.TK.is ?_; first | refine SL.TK.seq ?_ | refine SL.TK.region ?_ | refine SL.TK.regionD SL.mixed (by simp only [SL.falses] <;> rfl) ?_ | refine SL.TK.block ?_ | refine SL.TK.inBlock ?_ | refine SL.TK.skip ?_ | refine SL.TK.scope ?_ | refine SL.TK.inScope ?_ | refine SL.TK.label ?_ | refine SL.W.exit ?_ | refine SL.W.condT ?_ | refine SL.W.condF ?_) | (refine SL.TD.is ?_; first | (refine SL.W.dfin ?_; simp only [SL.aps]) | refine SL.W.dpass ?_ | refine SL.W.dpure ?_ | refine SL.W.dload ?_ | refine SL.W.dloadA ?_ | refine SL.W.dfrz ?_ | (refine SL.W.dthaw ?_; simp only [SL.aps])) | ((first | refine SL.W.guardP (fun h => ?_) (fun h => ?_) | refine SL.W.condP (fun h => ?_) (fun h => ?_) | refine SL.W.dguardP (fun h => ?_) (fun h => ?_)) <;> (fail_if_success (have : h = trivial := rfl)) <;> (fail_if_success (have : h = not_false := rfl)) <;> first | contradiction | (exfalso; omega) | (exfalso; revert h; simp; done) | skip) | ((first | refine SL.W.guardB (fun h => ?_) (fun h => ?_) | refine SL.W.dguardB (fun h => ?_) (fun h => ?_)) <;> (fail_if_success (have : h = (rfl : true = true) := rfl)) <;> (fail_if_success (have : h = (rfl : false = false) := rfl))) | refine SL.W.condB (fun h => ?_) (fun h => ?_) | (refine SL.TD.is ?_; first | refine SL.W.done ?_ | refine SL.W.dtwo ?_ ?_ | refine SL.W.dthree ?_ ?_ ?_))
    have hf : rFail e s = s := by unfold rFail; rw [if_neg h]
    rw [hf]
    exact SL.TK.finD Tryz.func64 (SL.Res.none rfl) ⟨rfl, rfl⟩ EntD.refl
end SL
end
section
set_option linter.unusedVariables false
set_option linter.unusedSimpArgs false
set_option maxRecDepth 10000
namespace SL
open Go Go.Proofs Go.RowKit
section
variable {P : Program} {n : Nat} {ρ : Env} {L r : List HProp}
theorem Res.cellST {fn : Func} {t u T b s : Nat} {cs : List Value} {v x : Value} [ht : TSc P u] (h : fn.results = #[.cell t u, .tmp s]) (hv : look t ρ = some (.pointer (some ⟨b, 0, Option.none⟩))) (hs : look s ρ = some x) (hp : Pick L (blk b T cs) r) (hc : nth cs 0 = some v) :
    Res P n ρ L fn (.tuple #[v, x]) := fun w0 F a w gr st => by
  have e := gr.at_ t _ hv
  have e2 := gr.at_ s _ hs
  have hl := st.cell hp (o := 0) (v := v) (by rw [← nth_eq]; exact hc)
  simp [results, h, Array.getD_eq_getD_getElem?, e, e2, asAddr, loadVar, (ht.run w).1, (ht.run w).2, hl]
end
attribute [local irreducible] SL.TK SL.TO SL.TD SL.PV SL.Pick SL.Frm SL.Ent SL.Sub SL.EvAll SL.seps SL.sep SL.Cut SL.PutAt SL.blk SL.EvP SL.Fill SL.Src SL.EntD SL.own SL.ex SL.fact SL.orig
theorem paFrom (pb : Nat) (f : Int) (a : Option Addr) (n c : Nat) (z : Value) : Spec Tryz.prog 82 [.pointer (some ⟨pb, 0, none⟩)] [SL.blk pb 201 [.int .u64 f, .slice a n c, z, .bool true]] (fun r L => r = .int .u64 f ∧ L = [SL.blk pb 201 [.int .u64 f, .slice a n c, z, .bool true]]) := by
  refine SL.Spec.of_TK Go.Proofs.Tryz.func82 rfl rfl SL.call82 rfl ?_
  repeat' (first | (refine SL.TO.is ?_; first | (refine SL.W.quick ?_; first | refine SL.W.pass ?_ | refine SL.W.pv ?_ | refine SL.W.pv0 ?_) | (refine SL.TO.door (o := ⟨_, .call _, _, _, _, _⟩) ?_; first | (refine SL.TO.door (o := ⟨_, .call ⟨.value (.func 115), _, _⟩, _, _, _, _⟩) ?_; first | (refine SL.W.call (pastNone_spec _ _ _ _) ?_; rintro _ _ ⟨rfl, rfl⟩; try simp only [SL.aps]))) | refine SL.TO.nil ?_ | (refine SL.TO.nilD ?_; simp only [SL.setB]) | refine SL.W.pass ?_ | refine SL.W.pass0 ?_ | (refine SL.W.pure ?_; first | refine SL.W.pv ?_ | refine SL.W.pv0 ?_) | (refine SL.W.loud ?_; first | refine SL.W.load ?_ | refine SL.W.loadA ?_ | refine SL.W.store ?_ | refine SL.W.storeA ?_ | (refine SL.W.box ?_; intro b) | (refine SL.W.alloc ?_; intro b) | (refine SL.W.buildSlice ?_; intro b) | (refine SL.W.append ?_; intro a cap) | refine SL.W.bytesToStr ?_ | refine SL.W.toIntC ?_ | (refine SL.W.makeSlice ?_; intro b))) | (refine SL.TK.is ?_; first | refine SL.TK.seq ?_ | refine SL.TK.region ?_ | refine SL.TK.regionD SL.mixed (by simp only [SL.falses] <;> rfl) ?_ | refine SL.TK.block ?_ | refine SL.TK.inBlock ?_ | refine SL.TK.skip ?_ | refine SL.TK.scope ?_ | refine SL.TK.inScope ?_ | refine SL.TK.label ?_ | (refine SL.TK.isExit ?_; refine SL.W.exit ?_) | refine SL.W.condT ?_ | refine SL.W.condF ?_) | (refine SL.TD.is ?_; first | (refine SL.W.dfin ?_; simp only [SL.aps]) | refine SL.W.dpass ?_ | refine SL.W.dpure ?_ | refine SL.W.dload ?_ | refine SL.W.dloadA ?_ | refine SL.W.dfrz ?_ | (refine SL.W.dthaw ?_; simp only [SL.aps])) | ((first | refine SL.W.guardP (fun h => ?_) (fun h => ?_) | refine SL.W.condP (fun h => ?_) (fun h => ?_) | refine SL.W.dguardP (fun h => ?_) (fun h => ?_)) <;> (fail_if_success (have : h = trivial := rfl)) <;> (fail_if_success (have : h = not_false := rfl)) <;> first | contradiction | (exfalso; omega) | (exfalso; revert h; simp; done) | skip) | ((first | refine SL.W.guardB (fun h => ?_) (fun h => ?_) | refine SL.W.dguardB (fun h => ?_) (fun h => ?_)) <;> (fail_if_success (have : h = (rfl : true = true) := rfl)) <;> (fail_if_success (have : h = (rfl : false = false) := rfl))) | refine SL.W.condB (fun h => ?_) (fun h => ?_) | (refine SL.TD.is ?_; first | refine SL.W.done ?_ | refine SL.W.dtwo ?_ ?_ | refine SL.W.dthree ?_ ?_ ?_))
  all_goals exact SL.TK.retD Tryz.func82 (SL.Res.one rfl (by rfl)) ⟨rfl, rfl⟩ (EntD.cons (by first | ((repeat (first | exact SL.Pick.head | apply SL.Pick.tail)); done) | fail) EntD.nil)
theorem paLen (pb : Nat) (f : Int) (a : Option Addr) (n c : Nat) (z : Value) : Spec Tryz.prog 111 [.pointer (some ⟨pb, 0, none⟩)] [SL.blk pb 201 [.int .u64 f, .slice a n c, z, .bool true]] (fun r L => r = .int .i64 n ∧ L = [SL.blk pb 201 [.int .u64 f, .slice a n c, z, .bool true]]) := by
  refine SL.Spec.of_TK Go.Proofs.Tryz.func111 rfl rfl SL.call111 rfl ?_
  repeat' (first | (refine SL.TO.is ?_; first | (refine SL.W.quick ?_; first | refine SL.W.pass ?_ | refine SL.W.pv ?_ | refine SL.W.pv0 ?_) | (refine SL.TO.door (o := ⟨_, .call _, _, _, _, _⟩) ?_; first | (refine SL.TO.door (o := ⟨_, .call ⟨.value (.func 115), _, _⟩, _, _, _, _⟩) ?_; first | (refine SL.W.call (pastNone_spec _ _ _ _) ?_; rintro _ _ ⟨rfl, rfl⟩; try simp only [SL.aps]))) | refine SL.TO.nil ?_ | (refine SL.TO.nilD ?_; simp only [SL.setB]) | refine SL.W.pass ?_ | refine SL.W.pass0 ?_ | (refine SL.W.pure ?_; first | refine SL.W.pv ?_ | refine SL.W.pv0 ?_) | (refine SL.W.loud ?_; first | refine SL.W.load ?_ | refine SL.W.loadA ?_ | refine SL.W.store ?_ | refine SL.W.storeA ?_ | (refine SL.W.box ?_; intro b) | (refine SL.W.alloc ?_; intro b) | (refine SL.W.buildSlice ?_; intro b) | (refine SL.W.append ?_; intro a cap) | refine SL.W.bytesToStr ?_ | refine SL.W.toIntC ?_ | (refine SL.W.makeSlice ?_; intro b))) | (refine SL.TK.is ?_; first | refine SL.TK.seq ?_ | refine SL.TK.region ?_ | refine SL.TK.regionD SL.mixed (by simp only [SL.falses] <;> rfl) ?_ | refine SL.TK.block ?_ | refine SL.TK.inBlock ?_ | refine SL.TK.skip ?_ | refine SL.TK.scope ?_ | refine SL.TK.inScope ?_ | refine SL.TK.label ?_ | (refine SL.TK.isExit ?_; refine SL.W.exit ?_) | refine SL.W.condT ?_ | refine SL.W.condF ?_) | (refine SL.TD.is ?_; first | (refine SL.W.dfin ?_; simp only [SL.aps]) | refine SL.W.dpass ?_ | refine SL.W.dpure ?_ | refine SL.W.dload ?_ | refine SL.W.dloadA ?_ | refine SL.W.dfrz ?_ | (refine SL.W.dthaw ?_; simp only [SL.aps])) | ((first | refine SL.W.guardP (fun h => ?_) (fun h => ?_) | refine SL.W.condP (fun h => ?_) (fun h => ?_) | refine SL.W.dguardP (fun h => ?_) (fun h => ?_)) <;> (fail_if_success (have : h = trivial := rfl)) <;> (fail_if_success (have : h = not_false := rfl)) <;> first | contradiction | (exfalso; omega) | (exfalso; revert h; simp; done) | skip) | ((first | refine SL.W.guardB (fun h => ?_) (fun h => ?_) | refine SL.W.dguardB (fun h => ?_) (fun h => ?_)) <;> (fail_if_success (have : h = (rfl : true = true) := rfl)) <;> (fail_if_success (have : h = (rfl : false = false) := rfl))) | refine SL.W.condB (fun h => ?_) (fun h => ?_) | (refine SL.TD.is ?_; first | refine SL.W.done ?_ | refine SL.W.dtwo ?_ ?_ | refine SL.W.dthree ?_ ?_ ?_))
  all_goals exact SL.TK.retD Tryz.func111 (SL.Res.one rfl (by rfl)) ⟨rfl, rfl⟩ (EntD.cons (by first | ((repeat (first | exact SL.Pick.head | apply SL.Pick.tail)); done) | fail) EntD.nil)
theorem paNow (pb : Nat) (a : Option Addr) (n c : Nat) (z : Value) (hn : n ≤ 1000) : Spec Tryz.prog 79 [.pointer (some ⟨pb, 0, none⟩)] [SL.blk pb 201 [.int .u64 0, .slice a n c, z, .bool true]] (fun r L => r = .int .u64 n ∧ L = [SL.blk pb 201 [.int .u64 0, .slice a n c, z, .bool true]]) := by
  have h1 := paFrom pb 0 a n c z
  have h2 := paLen pb 0 a n c z
  refine SL.Spec.of_TK Go.Proofs.Tryz.func79 rfl rfl SL.call79 rfl ?_
  repeat' (first | (refine SL.TO.is ?_; first | (refine SL.W.quick ?_; first | refine SL.W.pass ?_ | refine SL.W.pv ?_ | refine SL.W.pv0 ?_) | (refine SL.TO.door (o := ⟨_, .call _, _, _, _, _⟩) ?_; first | (refine SL.TO.door (o := ⟨_, .call ⟨.value (.func 82), _, _⟩, _, _, _, _⟩) ?_; first | (refine SL.W.call (h1) ?_; rintro _ _ ⟨rfl, rfl⟩; try simp only [SL.aps])) | (refine SL.TO.door (o := ⟨_, .call ⟨.value (.func 111), _, _⟩, _, _, _, _⟩) ?_; first | (refine SL.W.call (h2) ?_; rintro _ _ ⟨rfl, rfl⟩; try simp only [SL.aps]))) | refine SL.TO.nil ?_ | (refine SL.TO.nilD ?_; simp only [SL.setB]) | refine SL.W.pass ?_ | refine SL.W.pass0 ?_ | (refine SL.W.pure ?_; first | refine SL.W.pv ?_ | refine SL.W.pv0 ?_) | (refine SL.W.loud ?_; first | refine SL.W.load ?_ | refine SL.W.loadA ?_ | refine SL.W.store ?_ | refine SL.W.storeA ?_ | (refine SL.W.box ?_; intro b) | (refine SL.W.alloc ?_; intro b) | (refine SL.W.buildSlice ?_; intro b) | (refine SL.W.append ?_; intro a cap) | refine SL.W.bytesToStr ?_ | refine SL.W.toIntC ?_ | (refine SL.W.makeSlice ?_; intro b))) | (refine SL.TK.is ?_; first | refine SL.TK.seq ?_ | refine SL.TK.region ?_ | refine SL.TK.regionD SL.mixed (by simp only [SL.falses] <;> rfl) ?_ | refine SL.TK.block ?_ | refine SL.TK.inBlock ?_ | refine SL.TK.skip ?_ | refine SL.TK.scope ?_ | refine SL.TK.inScope ?_ | refine SL.TK.label ?_ | (refine SL.TK.isExit ?_; refine SL.W.exit ?_) | refine SL.W.condT ?_ | refine SL.W.condF ?_) | (refine SL.TD.is ?_; first | (refine SL.W.dfin ?_; simp only [SL.aps]) | refine SL.W.dpass ?_ | refine SL.W.dpure ?_ | refine SL.W.dload ?_ | refine SL.W.dloadA ?_ | refine SL.W.dfrz ?_ | (refine SL.W.dthaw ?_; simp only [SL.aps])) | ((first | refine SL.W.guardP (fun h => ?_) (fun h => ?_) | refine SL.W.condP (fun h => ?_) (fun h => ?_) | refine SL.W.dguardP (fun h => ?_) (fun h => ?_)) <;> (fail_if_success (have : h = trivial := rfl)) <;> (fail_if_success (have : h = not_false := rfl)) <;> first | contradiction | (exfalso; omega) | (exfalso; revert h; simp; done) | skip) | ((first | refine SL.W.guardB (fun h => ?_) (fun h => ?_) | refine SL.W.dguardB (fun h => ?_) (fun h => ?_)) <;> (fail_if_success (have : h = (rfl : true = true) := rfl)) <;> (fail_if_success (have : h = (rfl : false = false) := rfl))) | refine SL.W.condB (fun h => ?_) (fun h => ?_) | (refine SL.TD.is ?_; first | refine SL.W.done ?_ | refine SL.W.dtwo ?_ ?_ | refine SL.W.dthree ?_ ?_ ?_))
  all_goals exact SL.TK.retD Tryz.func79 (SL.Res.one rfl (by rfl)) ⟨by exact SL.int_eq (by omega), rfl⟩ (EntD.cons (by first | ((repeat (first | exact SL.Pick.head | apply SL.Pick.tail)); done) | fail) EntD.nil)
theorem length1_spec (pb b2 b4 lb m c : Nat) (l0 : Int) (cs ex : List Value) (x : Value) (hm : 0 < m) (hn : nth (cs ++ ex) 0 = some (.int .i64 l0)) :
    Spec Tryz.prog 114 [.int .i64 0, .pointer (some ⟨b2, 0, none⟩), .pointer (some ⟨b4, 0, none⟩)]
      [SL.blk pb 201 [.int .u64 0, x, .slice (some ⟨lb, 0, none⟩) m c, .bool true], SL.blk lb 3 (cs ++ ex), SL.blk b2 107 [.pointer (some ⟨pb, 0, none⟩)], SL.blk b4 3 [.int .i64 0]]
      (fun r L => r = .tuple #[] ∧ L = [SL.blk pb 201 [.int .u64 0, x, .slice (some ⟨lb, 0, none⟩) m c, .bool true], SL.blk lb 3 (cs ++ ex), SL.blk b2 107 [.pointer (some ⟨pb, 0, none⟩)], SL.blk b4 3 [.int .i64 l0]]) := by
  refine SL.Spec.of_TK Go.Proofs.Tryz.func114 rfl rfl SL.call114 rfl ?_
  repeat' (first | (refine SL.TO.is ?_; first | (refine SL.W.quick ?_; first | refine SL.W.pass ?_ | refine SL.W.pv ?_ | refine SL.W.pv0 ?_) | (refine SL.TO.door (o := ⟨_, .indexAddr _ _ _, _, _, _, _⟩) ?_; first | refine SL.W.pvn (SL.PV.indexAddr (i' := 0) (o' := 0) (by rfl) (by rfl) rfl (by omega) rfl) ?_) | (refine SL.TO.door (o := ⟨_, .load _ _, _, _, _, _⟩) ?_; first | refine SL.W.loadN hn ?_) | refine SL.TO.nil ?_ | (refine SL.TO.nilD ?_; simp only [SL.setB]) | refine SL.W.pass ?_ | refine SL.W.pass0 ?_ | (refine SL.W.pure ?_; first | refine SL.W.pv ?_ | refine SL.W.pv0 ?_) | (refine SL.W.loud ?_; first | refine SL.W.load ?_ | refine SL.W.loadA ?_ | refine SL.W.store ?_ | refine SL.W.storeA ?_ | (refine SL.W.box ?_; intro b) | (refine SL.W.alloc ?_; intro b) | (refine SL.W.buildSlice ?_; intro b) | (refine SL.W.append ?_; intro a cap) | refine SL.W.bytesToStr ?_ | refine SL.W.toIntC ?_ | (refine SL.W.makeSlice ?_; intro b))) | (refine SL.TK.is ?_; first | refine SL.TK.seq ?_ | refine SL.TK.region ?_ | refine SL.TK.regionD SL.mixed (by simp only [SL.falses] <;> rfl) ?_ | refine SL.TK.block ?_ | refine SL.TK.inBlock ?_ | refine SL.TK.skip ?_ | refine SL.TK.scope ?_ | refine SL.TK.inScope ?_ | refine SL.TK.label ?_ | (refine SL.TK.isExit ?_; refine SL.W.exit ?_) | refine SL.W.condT ?_ | refine SL.W.condF ?_) | (refine SL.TD.is ?_; first | (refine SL.W.dfin ?_; simp only [SL.aps]) | refine SL.W.dpass ?_ | refine SL.W.dpure ?_ | refine SL.W.dload ?_ | refine SL.W.dloadA ?_ | refine SL.W.dfrz ?_ | (refine SL.W.dthaw ?_; simp only [SL.aps])) | ((first | refine SL.W.guardP (fun h => ?_) (fun h => ?_) | refine SL.W.condP (fun h => ?_) (fun h => ?_) | refine SL.W.dguardP (fun h => ?_) (fun h => ?_)) <;> (fail_if_success (have : h = trivial := rfl)) <;> (fail_if_success (have : h = not_false := rfl)) <;> first | contradiction | (exfalso; omega) | (exfalso; revert h; simp; done) | skip) | ((first | refine SL.W.guardB (fun h => ?_) (fun h => ?_) | refine SL.W.dguardB (fun h => ?_) (fun h => ?_)) <;> (fail_if_success (have : h = (rfl : true = true) := rfl)) <;> (fail_if_success (have : h = (rfl : false = false) := rfl))) | refine SL.W.condB (fun h => ?_) (fun h => ?_) | (refine SL.TD.is ?_; first | refine SL.W.done ?_ | refine SL.W.dtwo ?_ ?_ | refine SL.W.dthree ?_ ?_ ?_))
  all_goals exact SL.TK.finD Tryz.func114 (SL.Res.none rfl) ⟨rfl, rfl⟩ (EntD.cons (by first | ((repeat (first | exact SL.Pick.head | apply SL.Pick.tail)); done) | fail) (EntD.cons (by first | ((repeat (first | exact SL.Pick.head | apply SL.Pick.tail)); done) | fail) (EntD.cons (by first | ((repeat (first | exact SL.Pick.head | apply SL.Pick.tail)); done) | fail) (EntD.cons (by first | ((repeat (first | exact SL.Pick.head | apply SL.Pick.tail)); done) | fail) EntD.nil))))
theorem atLen_spec (pb b2 b4 lb m c : Nat) (l0 : Int) (cs ex : List Value) (hm : 0 < m) (hn : nth (cs ++ ex) 0 = some (.int .i64 l0)) :
    Spec Tryz.prog 113 [.pointer (some ⟨pb, 0, none⟩), .int .u64 0, .int .i64 0, .func (.func 114) #[] #[.pointer (some ⟨b2, 0, none⟩), .pointer (some ⟨b4, 0, none⟩)]]
      [SL.blk pb 201 [.int .u64 0, .slice none 0 0, .slice (some ⟨lb, 0, none⟩) m c, .bool true], SL.blk lb 3 (cs ++ ex), SL.blk b2 107 [.pointer (some ⟨pb, 0, none⟩)], SL.blk b4 3 [.int .i64 0]]
      (fun r L => r = .int .i64 0 ∧ L = [SL.blk pb 201 [.int .u64 0, .slice none 0 0, .slice (some ⟨lb, 0, none⟩) m c, .bool true], SL.blk lb 3 (cs ++ ex), SL.blk b2 107 [.pointer (some ⟨pb, 0, none⟩)], SL.blk b4 3 [.int .i64 l0]]) := by
  have h1 := length1_spec pb b2 b4 lb m c l0 cs ex (.slice none 0 0) hm hn
  have h2 := Lib.hid (paNow pb none 0 0 (.slice (some ⟨lb, 0, none⟩) m c) (by omega))
  refine SL.Spec.of_TK Go.Proofs.Tryz.func113 rfl rfl SL.call113 rfl ?_
  repeat' (first | (refine SL.TO.is ?_; first | (refine SL.W.quick ?_; first | refine SL.W.pass ?_ | refine SL.W.pv ?_ | refine SL.W.pv0 ?_) | (refine SL.TO.door (o := ⟨_, .call _, _, _, _, _⟩) ?_; first | (refine SL.TO.door (o := ⟨_, .call ⟨.value (.func 115), _, _⟩, _, _, _, _⟩) ?_; first | (refine SL.W.call (pastNone_spec _ _ _ _) ?_; rintro _ _ ⟨rfl, rfl⟩; try simp only [SL.aps])) | (refine SL.TO.door (o := ⟨_, .call ⟨.value (.func 79), _, _⟩, _, _, _, _⟩) ?_; first | (refine SL.W.call (h2.out) ?_; rintro _ _ ⟨rfl, rfl⟩; try simp only [SL.aps])) | (refine SL.TO.door (o := ⟨_, .call ⟨.value (.tmp _), _, _⟩, _, _, _, _⟩) ?_; first | (refine SL.TO.callVal (cap := [.pointer (some ⟨b2, 0, none⟩), .pointer (some ⟨b4, 0, none⟩)]) h1 (by rfl) (by rfl) rfl (by first | ((repeat (first | exact SL.EvAll.nil | (apply SL.EvAll.cons; rfl))); done) | fail) (by rfl) (by first | ((repeat (first | exact SL.Frm.nil | exact SL.Frm.refl | (apply SL.Frm.cons; repeat (first | exact SL.Pick.head | apply SL.Pick.tail)))); done) | fail) ?_; rintro _ _ ⟨rfl, rfl⟩; try simp only [SL.aps]))) | refine SL.TO.nil ?_ | (refine SL.TO.nilD ?_; simp only [SL.setB]) | refine SL.W.pass ?_ | refine SL.W.pass0 ?_ | (refine SL.W.pure ?_; first | refine SL.W.pv ?_ | refine SL.W.pv0 ?_) | (refine SL.W.loud ?_; first | refine SL.W.load ?_ | refine SL.W.loadA ?_ | refine SL.W.store ?_ | refine SL.W.storeA ?_ | (refine SL.W.box ?_; intro b) | (refine SL.W.alloc ?_; intro b) | (refine SL.W.buildSlice ?_; intro b) | (refine SL.W.append ?_; intro a cap) | refine SL.W.bytesToStr ?_ | refine SL.W.toIntC ?_ | (refine SL.W.makeSlice ?_; intro b))) | (refine SL.TK.is ?_; first | refine SL.TK.seq ?_ | refine SL.TK.region ?_ | refine SL.TK.regionD SL.mixed (by simp only [SL.falses] <;> rfl) ?_ | refine SL.TK.block ?_ | refine SL.TK.inBlock ?_ | refine SL.TK.skip ?_ | refine SL.TK.scope ?_ | refine SL.TK.inScope ?_ | refine SL.TK.label ?_ | (refine SL.TK.isExit ?_; refine SL.W.exit ?_) | refine SL.W.condT ?_ | refine SL.W.condF ?_) | (refine SL.TD.is ?_; first | (refine SL.W.dfin ?_; simp only [SL.aps]) | refine SL.W.dpass ?_ | refine SL.W.dpure ?_ | refine SL.W.dload ?_ | refine SL.W.dloadA ?_ | refine SL.W.dfrz ?_ | (refine SL.W.dthaw ?_; simp only [SL.aps])) | ((first | refine SL.W.guardP (fun h => ?_) (fun h => ?_) | refine SL.W.condP (fun h => ?_) (fun h => ?_) | refine SL.W.dguardP (fun h => ?_) (fun h => ?_)) <;> (fail_if_success (have : h = trivial := rfl)) <;> (fail_if_success (have : h = not_false := rfl)) <;> first | contradiction | (exfalso; omega) | (exfalso; revert h; simp; done) | skip) | ((first | refine SL.W.guardB (fun h => ?_) (fun h => ?_) | refine SL.W.dguardB (fun h => ?_) (fun h => ?_)) <;> (fail_if_success (have : h = (rfl : true = true) := rfl)) <;> (fail_if_success (have : h = (rfl : false = false) := rfl))) | refine SL.W.condB (fun h => ?_) (fun h => ?_) | (refine SL.TD.is ?_; first | refine SL.W.done ?_ | refine SL.W.dtwo ?_ ?_ | refine SL.W.dthree ?_ ?_ ?_))
  all_goals exact SL.TK.retD Tryz.func113 (SL.Res.one rfl (by rfl)) ⟨rfl, rfl⟩ (EntD.cons (by first | ((repeat (first | exact SL.Pick.head | apply SL.Pick.tail)); done) | fail) (EntD.cons (by first | ((repeat (first | exact SL.Pick.head | apply SL.Pick.tail)); done) | fail) (EntD.cons (by first | ((repeat (first | exact SL.Pick.head | apply SL.Pick.tail)); done) | fail) (EntD.cons (by first | ((repeat (first | exact SL.Pick.head | apply SL.Pick.tail)); done) | fail) EntD.nil))))
theorem paLength0 (pb : Nat) : Spec Tryz.prog 81 [.pointer (some ⟨pb, 0, none⟩), .int .u64 0] [PastE pb] (fun r L => r = .tuple #[.int .i64 0, .int .i64 0] ∧ L = [PastE pb]) := by
  refine SL.Spec.of_TK Go.Proofs.Tryz.func81 rfl rfl SL.call81 rfl ?_
  refine SL.TK.openPE (by first | ((repeat (first | exact SL.Pick.head | apply SL.Pick.tail)); done) | fail) (fun a c => ?_)
  refine SL.TK.ownPos (e := 3) (sz := 1) (a := a) (m := 1) (by first | ((repeat (first | exact SL.Pick.head | apply SL.Pick.tail)); done) | fail) (by omega) (fun lb ex ea e1 e2 e3 => ?_)
  subst ea
  have hat := Lib.hid fun (b2 b4 : Nat) => atLen_spec pb b2 b4 lb 1 c 0 [.int .i64 0] ex (by omega) rfl
  have hE := Lib.hid (And.intro e1 e2)
  clear e1 e2
  obtain ⟨cs, hcs⟩ : ∃ cs, cs = [Value.int .i64 0] ++ ex := ⟨_, rfl⟩
  rw [← hcs] at hat ⊢
  have hcH := Lib.hid hcs
  clear hcs
  repeat' (first | (refine SL.TO.is ?_; first | (refine SL.W.quick ?_; first | refine SL.W.pass ?_ | refine SL.W.pv ?_ | refine SL.W.pv0 ?_) | (refine SL.TO.door (o := ⟨_, .call _, _, _, _, _⟩) ?_; first | (refine SL.TO.door (o := ⟨_, .call ⟨.value (.func 113), _, _⟩, _, _, _, _⟩) ?_; first | (refine SL.W.call (hat.out _ _) ?_; rintro _ _ ⟨rfl, rfl⟩; try simp only [SL.aps]))) | refine SL.TO.nil ?_ | (refine SL.TO.nilD ?_; simp only [SL.setB]) | refine SL.W.pass ?_ | refine SL.W.pass0 ?_ | (refine SL.W.pure ?_; first | refine SL.W.pv ?_ | refine SL.W.pv0 ?_) | (refine SL.W.loud ?_; first | refine SL.W.load ?_ | refine SL.W.loadA ?_ | refine SL.W.store ?_ | refine SL.W.storeA ?_ | (refine SL.W.box ?_; intro b) | (refine SL.W.alloc ?_; intro b) | (refine SL.W.buildSlice ?_; intro b) | (refine SL.W.append ?_; intro a cap) | refine SL.W.bytesToStr ?_ | refine SL.W.toIntC ?_ | (refine SL.W.makeSlice ?_; intro b))) | (refine SL.TK.is ?_; first | refine SL.TK.seq ?_ | refine SL.TK.region ?_ | refine SL.TK.regionD SL.mixed (by simp only [SL.falses] <;> rfl) ?_ | refine SL.TK.block ?_ | refine SL.TK.inBlock ?_ | refine SL.TK.skip ?_ | refine SL.TK.scope ?_ | refine SL.TK.inScope ?_ | refine SL.TK.label ?_ | (refine SL.TK.isExit ?_; refine SL.W.exit ?_) | refine SL.W.condT ?_ | refine SL.W.condF ?_) | (refine SL.TD.is ?_; first | (refine SL.W.dfin ?_; simp only [SL.aps]) | refine SL.W.dpass ?_ | refine SL.W.dpure ?_ | refine SL.W.dload ?_ | refine SL.W.dloadA ?_ | refine SL.W.dfrz ?_ | (refine SL.W.dthaw ?_; simp only [SL.aps])) | ((first | refine SL.W.guardP (fun h => ?_) (fun h => ?_) | refine SL.W.condP (fun h => ?_) (fun h => ?_) | refine SL.W.dguardP (fun h => ?_) (fun h => ?_)) <;> (fail_if_success (have : h = trivial := rfl)) <;> (fail_if_success (have : h = not_false := rfl)) <;> first | contradiction | (exfalso; omega) | (exfalso; revert h; simp; done) | skip) | ((first | refine SL.W.guardB (fun h => ?_) (fun h => ?_) | refine SL.W.dguardB (fun h => ?_) (fun h => ?_)) <;> (fail_if_success (have : h = (rfl : true = true) := rfl)) <;> (fail_if_success (have : h = (rfl : false = false) := rfl))) | refine SL.W.condB (fun h => ?_) (fun h => ?_) | (refine SL.TD.is ?_; first | refine SL.W.done ?_ | refine SL.W.dtwo ?_ ?_ | refine SL.W.dthree ?_ ?_ ?_))
  all_goals
    rw [hcH.out]
    refine SL.TK.retD Tryz.func81 (SL.Res.cellST rfl (by rfl) (by rfl) (by first | ((repeat (first | exact SL.Pick.head | apply SL.Pick.tail)); done) | fail) (by rfl)) ⟨rfl, rfl⟩ ?_
    exact EntD.trans (EntD.of_ent (Ent.own_blk (e := 3) (sz := 1) (n := 1) (cap := c) (b := lb) (cs := [.int .i64 0]) (extra := ex) (by first | ((repeat (first | exact SL.Pick.head | apply SL.Pick.tail)); done) | fail) rfl (by simp) (by simpa using hE.out.2) e3 Ent.refl)) (EntD.frm (by first | ((repeat (first | exact SL.Frm.nil | exact SL.Frm.refl | (apply SL.Frm.cons; repeat (first | exact SL.Pick.head | apply SL.Pick.tail)))); done) | fail) pastE_shut EntD.nil)
theorem since1_spec (pb b2 b4 : Nat) (z : Value) :
    Spec Tryz.prog 116 [.int .i64 0, .pointer (some ⟨b2, 0, none⟩), .pointer (some ⟨b4, 0, none⟩)]
      [SL.blk pb 201 [.int .u64 0, .slice none 0 0, z, .bool true], SL.blk b2 107 [.pointer (some ⟨pb, 0, none⟩)], SL.blk b4 86 [.slice none 0 0]]
      (fun r L => r = .tuple #[] ∧ L = [SL.blk pb 201 [.int .u64 0, .slice none 0 0, z, .bool true], SL.blk b2 107 [.pointer (some ⟨pb, 0, none⟩)], SL.blk b4 86 [.slice none 0 0]]) := by
  refine SL.Spec.of_TK Go.Proofs.Tryz.func116 rfl rfl SL.call116 rfl ?_
  repeat' (first | (refine SL.TO.is ?_; first | (refine SL.W.quick ?_; first | refine SL.W.pass ?_ | refine SL.W.pv ?_ | refine SL.W.pv0 ?_) | (refine SL.TO.door (o := ⟨_, .call _, _, _, _, _⟩) ?_; first | (refine SL.TO.door (o := ⟨_, .call ⟨.value (.func 117), _, _⟩, _, _, _, _⟩) ?_; first | (refine SL.W.call (owns_nil) ?_; rintro _ _ ⟨rfl, rfl⟩; try simp only [SL.aps]))) | (refine SL.TO.door (o := ⟨_, .slice _ _ _ _ _, _, _, _, _⟩) ?_; first | refine SL.W.pvn (SL.PV.sliceLo (lo := 0) (by rfl) (by rfl) rfl (by omega)) ?_) | refine SL.TO.nil ?_ | (refine SL.TO.nilD ?_; simp only [SL.setB]) | refine SL.W.pass ?_ | refine SL.W.pass0 ?_ | (refine SL.W.pure ?_; first | refine SL.W.pv ?_ | refine SL.W.pv0 ?_) | (refine SL.W.loud ?_; first | refine SL.W.load ?_ | refine SL.W.loadA ?_ | refine SL.W.store ?_ | refine SL.W.storeA ?_ | (refine SL.W.box ?_; intro b) | (refine SL.W.alloc ?_; intro b) | (refine SL.W.buildSlice ?_; intro b) | (refine SL.W.append ?_; intro a cap) | refine SL.W.bytesToStr ?_ | refine SL.W.toIntC ?_ | (refine SL.W.makeSlice ?_; intro b))) | (refine SL.TK.is ?_; first | refine SL.TK.seq ?_ | refine SL.TK.region ?_ | refine SL.TK.regionD SL.mixed (by simp only [SL.falses] <;> rfl) ?_ | refine SL.TK.block ?_ | refine SL.TK.inBlock ?_ | refine SL.TK.skip ?_ | refine SL.TK.scope ?_ | refine SL.TK.inScope ?_ | refine SL.TK.label ?_ | (refine SL.TK.isExit ?_; refine SL.W.exit ?_) | refine SL.W.condT ?_ | refine SL.W.condF ?_) | (refine SL.TD.is ?_; first | (refine SL.W.dfin ?_; simp only [SL.aps]) | refine SL.W.dpass ?_ | refine SL.W.dpure ?_ | refine SL.W.dload ?_ | refine SL.W.dloadA ?_ | refine SL.W.dfrz ?_ | (refine SL.W.dthaw ?_; simp only [SL.aps])) | ((first | refine SL.W.guardP (fun h => ?_) (fun h => ?_) | refine SL.W.condP (fun h => ?_) (fun h => ?_) | refine SL.W.dguardP (fun h => ?_) (fun h => ?_)) <;> (fail_if_success (have : h = trivial := rfl)) <;> (fail_if_success (have : h = not_false := rfl)) <;> first | contradiction | (exfalso; omega) | (exfalso; revert h; simp; done) | skip) | ((first | refine SL.W.guardB (fun h => ?_) (fun h => ?_) | refine SL.W.dguardB (fun h => ?_) (fun h => ?_)) <;> (fail_if_success (have : h = (rfl : true = true) := rfl)) <;> (fail_if_success (have : h = (rfl : false = false) := rfl))) | refine SL.W.condB (fun h => ?_) (fun h => ?_) | (refine SL.TD.is ?_; first | refine SL.W.done ?_ | refine SL.W.dtwo ?_ ?_ | refine SL.W.dthree ?_ ?_ ?_))
  all_goals exact SL.TK.finD Tryz.func116 (SL.Res.none rfl) ⟨rfl, rfl⟩ (EntD.cons (by first | ((repeat (first | exact SL.Pick.head | apply SL.Pick.tail)); done) | fail) (EntD.cons (by first | ((repeat (first | exact SL.Pick.head | apply SL.Pick.tail)); done) | fail) (EntD.cons (by first | ((repeat (first | exact SL.Pick.head | apply SL.Pick.tail)); done) | fail) EntD.nil)))
theorem atSince_spec (pb b2 b4 : Nat) (z : Value) :
    Spec Tryz.prog 113 [.pointer (some ⟨pb, 0, none⟩), .int .u64 0, .int .i64 0, .func (.func 116) #[] #[.pointer (some ⟨b2, 0, none⟩), .pointer (some ⟨b4, 0, none⟩)]]
      [SL.blk pb 201 [.int .u64 0, .slice none 0 0, z, .bool true], SL.blk b2 107 [.pointer (some ⟨pb, 0, none⟩)], SL.blk b4 86 [.slice none 0 0]]
      (fun r L => r = .int .i64 0 ∧ L = [SL.blk pb 201 [.int .u64 0, .slice none 0 0, z, .bool true], SL.blk b2 107 [.pointer (some ⟨pb, 0, none⟩)], SL.blk b4 86 [.slice none 0 0]]) := by
  have h1 := since1_spec pb b2 b4 z
  have h2 := Lib.hid (paNow pb none 0 0 z (by omega))
  refine SL.Spec.of_TK Go.Proofs.Tryz.func113 rfl rfl SL.call113 rfl ?_
  repeat' (first | (refine SL.TO.is ?_; first | (refine SL.W.quick ?_; first | refine SL.W.pass ?_ | refine SL.W.pv ?_ | refine SL.W.pv0 ?_) | (refine SL.TO.door (o := ⟨_, .call _, _, _, _, _⟩) ?_; first | (refine SL.TO.door (o := ⟨_, .call ⟨.value (.func 115), _, _⟩, _, _, _, _⟩) ?_; first | (refine SL.W.call (pastNone_spec _ _ _ _) ?_; rintro _ _ ⟨rfl, rfl⟩; try simp only [SL.aps])) | (refine SL.TO.door (o := ⟨_, .call ⟨.value (.func 79), _, _⟩, _, _, _, _⟩) ?_; first | (refine SL.W.call (h2.out) ?_; rintro _ _ ⟨rfl, rfl⟩; try simp only [SL.aps])) | (refine SL.TO.door (o := ⟨_, .call ⟨.value (.tmp _), _, _⟩, _, _, _, _⟩) ?_; first | (refine SL.TO.callVal (cap := [.pointer (some ⟨b2, 0, none⟩), .pointer (some ⟨b4, 0, none⟩)]) h1 (by rfl) (by rfl) rfl (by first | ((repeat (first | exact SL.EvAll.nil | (apply SL.EvAll.cons; rfl))); done) | fail) (by rfl) (by first | ((repeat (first | exact SL.Frm.nil | exact SL.Frm.refl | (apply SL.Frm.cons; repeat (first | exact SL.Pick.head | apply SL.Pick.tail)))); done) | fail) ?_; rintro _ _ ⟨rfl, rfl⟩; try simp only [SL.aps]))) | refine SL.TO.nil ?_ | (refine SL.TO.nilD ?_; simp only [SL.setB]) | refine SL.W.pass ?_ | refine SL.W.pass0 ?_ | (refine SL.W.pure ?_; first | refine SL.W.pv ?_ | refine SL.W.pv0 ?_) | (refine SL.W.loud ?_; first | refine SL.W.load ?_ | refine SL.W.loadA ?_ | refine SL.W.store ?_ | refine SL.W.storeA ?_ | (refine SL.W.box ?_; intro b) | (refine SL.W.alloc ?_; intro b) | (refine SL.W.buildSlice ?_; intro b) | (refine SL.W.append ?_; intro a cap) | refine SL.W.bytesToStr ?_ | refine SL.W.toIntC ?_ | (refine SL.W.makeSlice ?_; intro b))) | (refine SL.TK.is ?_; first | refine SL.TK.seq ?_ | refine SL.TK.region ?_ | refine SL.TK.regionD SL.mixed (by simp only [SL.falses] <;> rfl) ?_ | refine SL.TK.block ?_ | refine SL.TK.inBlock ?_ | refine SL.TK.skip ?_ | refine SL.TK.scope ?_ | refine SL.TK.inScope ?_ | refine SL.TK.label ?_ | (refine SL.TK.isExit ?_; refine SL.W.exit ?_) | refine SL.W.condT ?_ | refine SL.W.condF ?_) | (refine SL.TD.is ?_; first | (refine SL.W.dfin ?_; simp only [SL.aps]) | refine SL.W.dpass ?_ | refine SL.W.dpure ?_ | refine SL.W.dload ?_ | refine SL.W.dloadA ?_ | refine SL.W.dfrz ?_ | (refine SL.W.dthaw ?_; simp only [SL.aps])) | ((first | refine SL.W.guardP (fun h => ?_) (fun h => ?_) | refine SL.W.condP (fun h => ?_) (fun h => ?_) | refine SL.W.dguardP (fun h => ?_) (fun h => ?_)) <;> (fail_if_success (have : h = trivial := rfl)) <;> (fail_if_success (have : h = not_false := rfl)) <;> first | contradiction | (exfalso; omega) | (exfalso; revert h; simp; done) | skip) | ((first | refine SL.W.guardB (fun h => ?_) (fun h => ?_) | refine SL.W.dguardB (fun h => ?_) (fun h => ?_)) <;> (fail_if_success (have : h = (rfl : true = true) := rfl)) <;> (fail_if_success (have : h = (rfl : false = false) := rfl))) | refine SL.W.condB (fun h => ?_) (fun h => ?_) | (refine SL.TD.is ?_; first | refine SL.W.done ?_ | refine SL.W.dtwo ?_ ?_ | refine SL.W.dthree ?_ ?_ ?_))
  all_goals exact SL.TK.retD Tryz.func113 (SL.Res.one rfl (by rfl)) ⟨rfl, rfl⟩ (EntD.cons (by first | ((repeat (first | exact SL.Pick.head | apply SL.Pick.tail)); done) | fail) (EntD.cons (by first | ((repeat (first | exact SL.Pick.head | apply SL.Pick.tail)); done) | fail) (EntD.cons (by first | ((repeat (first | exact SL.Pick.head | apply SL.Pick.tail)); done) | fail) EntD.nil)))
theorem paSince0 (pb : Nat) : Spec Tryz.prog 83 [.pointer (some ⟨pb, 0, none⟩), .int .u64 0] [PastE pb] (fun r L => r = .tuple #[.slice none 0 0, .int .i64 0] ∧ L = [PastE pb]) := by
  refine SL.Spec.of_TK Go.Proofs.Tryz.func83 rfl rfl SL.call83 rfl ?_
  refine SL.TK.openPE (by first | ((repeat (first | exact SL.Pick.head | apply SL.Pick.tail)); done) | fail) (fun a c => ?_)
  have hat := Lib.hid fun (b2 b4 : Nat) => atSince_spec pb b2 b4 (.slice a 1 c)
  repeat' (first | (refine SL.TO.is ?_; first | (refine SL.W.quick ?_; first | refine SL.W.pass ?_ | refine SL.W.pv ?_ | refine SL.W.pv0 ?_) | (refine SL.TO.door (o := ⟨_, .call _, _, _, _, _⟩) ?_; first | (refine SL.TO.door (o := ⟨_, .call ⟨.value (.func 113), _, _⟩, _, _, _, _⟩) ?_; first | (refine SL.W.call (hat.out _ _) ?_; rintro _ _ ⟨rfl, rfl⟩; try simp only [SL.aps]))) | refine SL.TO.nil ?_ | (refine SL.TO.nilD ?_; simp only [SL.setB]) | refine SL.W.pass ?_ | refine SL.W.pass0 ?_ | (refine SL.W.pure ?_; first | refine SL.W.pv ?_ | refine SL.W.pv0 ?_) | (refine SL.W.loud ?_; first | refine SL.W.load ?_ | refine SL.W.loadA ?_ | refine SL.W.store ?_ | refine SL.W.storeA ?_ | (refine SL.W.box ?_; intro b) | (refine SL.W.alloc ?_; intro b) | (refine SL.W.buildSlice ?_; intro b) | (refine SL.W.append ?_; intro a cap) | refine SL.W.bytesToStr ?_ | refine SL.W.toIntC ?_ | (refine SL.W.makeSlice ?_; intro b))) | (refine SL.TK.is ?_; first | refine SL.TK.seq ?_ | refine SL.TK.region ?_ | refine SL.TK.regionD SL.mixed (by simp only [SL.falses] <;> rfl) ?_ | refine SL.TK.block ?_ | refine SL.TK.inBlock ?_ | refine SL.TK.skip ?_ | refine SL.TK.scope ?_ | refine SL.TK.inScope ?_ | refine SL.TK.label ?_ | (refine SL.TK.isExit ?_; refine SL.W.exit ?_) | refine SL.W.condT ?_ | refine SL.W.condF ?_) | (refine SL.TD.is ?_; first | (refine SL.W.dfin ?_; simp only [SL.aps]) | refine SL.W.dpass ?_ | refine SL.W.dpure ?_ | refine SL.W.dload ?_ | refine SL.W.dloadA ?_ | refine SL.W.dfrz ?_ | (refine SL.W.dthaw ?_; simp only [SL.aps])) | ((first | refine SL.W.guardP (fun h => ?_) (fun h => ?_) | refine SL.W.condP (fun h => ?_) (fun h => ?_) | refine SL.W.dguardP (fun h => ?_) (fun h => ?_)) <;> (fail_if_success (have : h = trivial := rfl)) <;> (fail_if_success (have : h = not_false := rfl)) <;> first | contradiction | (exfalso; omega) | (exfalso; revert h; simp; done) | skip) | ((first | refine SL.W.guardB (fun h => ?_) (fun h => ?_) | refine SL.W.dguardB (fun h => ?_) (fun h => ?_)) <;> (fail_if_success (have : h = (rfl : true = true) := rfl)) <;> (fail_if_success (have : h = (rfl : false = false) := rfl))) | refine SL.W.condB (fun h => ?_) (fun h => ?_) | (refine SL.TD.is ?_; first | refine SL.W.done ?_ | refine SL.W.dtwo ?_ ?_ | refine SL.W.dthree ?_ ?_ ?_))
  all_goals exact SL.TK.retD Tryz.func83 (SL.Res.cellST rfl (by rfl) (by rfl) (by first | ((repeat (first | exact SL.Pick.head | apply SL.Pick.tail)); done) | fail) (by rfl)) ⟨rfl, rfl⟩ (EntD.frm (by first | ((repeat (first | exact SL.Frm.nil | exact SL.Frm.refl | (apply SL.Frm.cons; repeat (first | exact SL.Pick.head | apply SL.Pick.tail)))); done) | fail) pastE_shut EntD.nil)
theorem tabLen_spec (tb : Nat) (x y z : Value) (l : Int) : Spec Tryz.prog 74 [.pointer (some ⟨tb, 0, none⟩)] [SL.blk tb 189 [x, y, z, .int .i64 l, .bool true]] (fun r L => r = .int .i64 l ∧ L = [SL.blk tb 189 [x, y, z, .int .i64 l, .bool true]]) := by
  refine SL.Spec.of_TK Go.Proofs.Tryz.func74 rfl rfl SL.call74 rfl ?_
  repeat' (first | (refine SL.TO.is ?_; first | (refine SL.W.quick ?_; first | refine SL.W.pass ?_ | refine SL.W.pv ?_ | refine SL.W.pv0 ?_) | (refine SL.TO.door (o := ⟨_, .call _, _, _, _, _⟩) ?_; first | (refine SL.TO.door (o := ⟨_, .call ⟨.value (.func 105), _, _⟩, _, _, _, _⟩) ?_; first | (refine SL.W.call (tabNone_spec _ _ _ _ _) ?_; rintro _ _ ⟨rfl, rfl⟩; try simp only [SL.aps]))) | refine SL.TO.nil ?_ | (refine SL.TO.nilD ?_; simp only [SL.setB]) | refine SL.W.pass ?_ | refine SL.W.pass0 ?_ | (refine SL.W.pure ?_; first | refine SL.W.pv ?_ | refine SL.W.pv0 ?_) | (refine SL.W.loud ?_; first | refine SL.W.load ?_ | refine SL.W.loadA ?_ | refine SL.W.store ?_ | refine SL.W.storeA ?_ | (refine SL.W.box ?_; intro b) | (refine SL.W.alloc ?_; intro b) | (refine SL.W.buildSlice ?_; intro b) | (refine SL.W.append ?_; intro a cap) | refine SL.W.bytesToStr ?_ | refine SL.W.toIntC ?_ | (refine SL.W.makeSlice ?_; intro b))) | (refine SL.TK.is ?_; first | refine SL.TK.seq ?_ | refine SL.TK.region ?_ | refine SL.TK.regionD SL.mixed (by simp only [SL.falses] <;> rfl) ?_ | refine SL.TK.block ?_ | refine SL.TK.inBlock ?_ | refine SL.TK.skip ?_ | refine SL.TK.scope ?_ | refine SL.TK.inScope ?_ | refine SL.TK.label ?_ | (refine SL.TK.isExit ?_; refine SL.W.exit ?_) | refine SL.W.condT ?_ | refine SL.W.condF ?_) | (refine SL.TD.is ?_; first | (refine SL.W.dfin ?_; simp only [SL.aps]) | refine SL.W.dpass ?_ | refine SL.W.dpure ?_ | refine SL.W.dload ?_ | refine SL.W.dloadA ?_ | refine SL.W.dfrz ?_ | (refine SL.W.dthaw ?_; simp only [SL.aps])) | ((first | refine SL.W.guardP (fun h => ?_) (fun h => ?_) | refine SL.W.condP (fun h => ?_) (fun h => ?_) | refine SL.W.dguardP (fun h => ?_) (fun h => ?_)) <;> (fail_if_success (have : h = trivial := rfl)) <;> (fail_if_success (have : h = not_false := rfl)) <;> first | contradiction | (exfalso; omega) | (exfalso; revert h; simp; done) | skip) | ((first | refine SL.W.guardB (fun h => ?_) (fun h => ?_) | refine SL.W.dguardB (fun h => ?_) (fun h => ?_)) <;> (fail_if_success (have : h = (rfl : true = true) := rfl)) <;> (fail_if_success (have : h = (rfl : false = false) := rfl))) | refine SL.W.condB (fun h => ?_) (fun h => ?_) | (refine SL.TD.is ?_; first | refine SL.W.done ?_ | refine SL.W.dtwo ?_ ?_ | refine SL.W.dthree ?_ ?_ ?_))
  all_goals exact SL.TK.retD Tryz.func74 (SL.Res.one rfl (by rfl)) ⟨rfl, rfl⟩ (EntD.cons (by first | ((repeat (first | exact SL.Pick.head | apply SL.Pick.tail)); done) | fail) EntD.nil)
theorem part_nil (pos : Int) : Spec Tryz.prog 103 [.slice none 0 0, .int .i64 pos] [] (fun r L => r = .tuple #[.slice none 0 0, .slice none 0 0] ∧ L = []) := by
  refine SL.Spec.of_TK Go.Proofs.Tryz.func103 rfl rfl SL.call103 rfl ?_
  repeat' (first | (refine SL.TO.is ?_; first | (refine SL.W.quick ?_; first | refine SL.W.pass ?_ | refine SL.W.pv ?_ | refine SL.W.pv0 ?_) | refine SL.TO.nil ?_ | (refine SL.TO.nilD ?_; simp only [SL.setB]) | refine SL.W.pass ?_ | refine SL.W.pass0 ?_ | (refine SL.W.pure ?_; first | refine SL.W.pv ?_ | refine SL.W.pv0 ?_) | (refine SL.W.loud ?_; first | refine SL.W.load ?_ | refine SL.W.loadA ?_ | refine SL.W.store ?_ | refine SL.W.storeA ?_ | (refine SL.W.box ?_; intro b) | (refine SL.W.alloc ?_; intro b) | (refine SL.W.buildSlice ?_; intro b) | (refine SL.W.append ?_; intro a cap) | refine SL.W.bytesToStr ?_ | refine SL.W.toIntC ?_ | (refine SL.W.makeSlice ?_; intro b))) | (refine SL.TK.lp ?_; first | (refine SL.TK.block ?_; refine SL.TK.enter ?_)) | (refine SL.TK.is ?_; first | refine SL.TK.seq ?_ | refine SL.TK.region ?_ | refine SL.TK.regionD SL.mixed (by simp only [SL.falses] <;> rfl) ?_ | refine SL.TK.block ?_ | refine SL.TK.inBlock ?_ | refine SL.TK.skip ?_ | refine SL.TK.scope ?_ | refine SL.TK.inScope ?_ | refine SL.TK.label ?_ | (refine SL.TK.isExit ?_; refine SL.W.exit ?_) | refine SL.W.condT ?_ | refine SL.W.condF ?_) | (refine SL.TD.is ?_; first | (refine SL.W.dfin ?_; simp only [SL.aps]) | refine SL.W.dpass ?_ | refine SL.W.dpure ?_ | refine SL.W.dload ?_ | refine SL.W.dloadA ?_ | refine SL.W.dfrz ?_ | (refine SL.W.dthaw ?_; simp only [SL.aps])) | ((first | refine SL.W.guardP (fun h => ?_) (fun h => ?_) | refine SL.W.condP (fun h => ?_) (fun h => ?_) | refine SL.W.dguardP (fun h => ?_) (fun h => ?_)) <;> (fail_if_success (have : h = trivial := rfl)) <;> (fail_if_success (have : h = not_false := rfl)) <;> first | contradiction | (exfalso; omega) | (exfalso; revert h; simp; done) | skip) | ((first | refine SL.W.guardB (fun h => ?_) (fun h => ?_) | refine SL.W.dguardB (fun h => ?_) (fun h => ?_)) <;> (fail_if_success (have : h = (rfl : true = true) := rfl)) <;> (fail_if_success (have : h = (rfl : false = false) := rfl))) | refine SL.W.condB (fun h => ?_) (fun h => ?_) | (refine SL.TD.is ?_; first | refine SL.W.done ?_ | refine SL.W.dtwo ?_ ?_ | refine SL.W.dthree ?_ ?_ ?_))
  all_goals exact SL.TK.retD Tryz.func103 (SL.Res.two rfl (by rfl) (by rfl)) ⟨rfl, rfl⟩ EntD.nil
theorem right0 (tb : Nat) (x y z : Value) : Spec Tryz.prog 102 [.pointer (some ⟨tb, 0, none⟩), .int .i64 0, .int .i64 0] [SL.blk tb 189 [x, y, z, .int .i64 0, .bool true]] (fun r L => r = .int .i64 0 ∧ L = [SL.blk tb 189 [x, y, z, .int .i64 0, .bool true]]) := by
  refine SL.Spec.of_TK Go.Proofs.Tryz.func102 rfl rfl SL.call102 rfl ?_
  repeat' (first | (refine SL.TO.is ?_; first | (refine SL.W.quick ?_; first | refine SL.W.pass ?_ | refine SL.W.pv ?_ | refine SL.W.pv0 ?_) | (refine SL.TO.door (o := ⟨_, .call _, _, _, _, _⟩) ?_; first | (refine SL.TO.door (o := ⟨_, .call ⟨.value (.func 105), _, _⟩, _, _, _, _⟩) ?_; first | (refine SL.W.call (tabNone_spec _ _ _ _ _) ?_; rintro _ _ ⟨rfl, rfl⟩; try simp only [SL.aps]))) | refine SL.TO.nil ?_ | (refine SL.TO.nilD ?_; simp only [SL.setB]) | refine SL.W.pass ?_ | refine SL.W.pass0 ?_ | (refine SL.W.pure ?_; first | refine SL.W.pv ?_ | refine SL.W.pv0 ?_) | (refine SL.W.loud ?_; first | refine SL.W.load ?_ | refine SL.W.loadA ?_ | refine SL.W.store ?_ | refine SL.W.storeA ?_ | (refine SL.W.box ?_; intro b) | (refine SL.W.alloc ?_; intro b) | (refine SL.W.buildSlice ?_; intro b) | (refine SL.W.append ?_; intro a cap) | refine SL.W.bytesToStr ?_ | refine SL.W.toIntC ?_ | (refine SL.W.makeSlice ?_; intro b))) | (refine SL.TK.is ?_; first | refine SL.TK.seq ?_ | refine SL.TK.region ?_ | refine SL.TK.regionD SL.mixed (by simp only [SL.falses] <;> rfl) ?_ | refine SL.TK.block ?_ | refine SL.TK.inBlock ?_ | refine SL.TK.skip ?_ | refine SL.TK.scope ?_ | refine SL.TK.inScope ?_ | refine SL.TK.label ?_ | (refine SL.TK.isExit ?_; refine SL.W.exit ?_) | refine SL.W.condT ?_ | refine SL.W.condF ?_) | (refine SL.TD.is ?_; first | (refine SL.W.dfin ?_; simp only [SL.aps]) | refine SL.W.dpass ?_ | refine SL.W.dpure ?_ | refine SL.W.dload ?_ | refine SL.W.dloadA ?_ | refine SL.W.dfrz ?_ | (refine SL.W.dthaw ?_; simp only [SL.aps])) | ((first | refine SL.W.guardP (fun h => ?_) (fun h => ?_) | refine SL.W.condP (fun h => ?_) (fun h => ?_) | refine SL.W.dguardP (fun h => ?_) (fun h => ?_)) <;> (fail_if_success (have : h = trivial := rfl)) <;> (fail_if_success (have : h = not_false := rfl)) <;> first | contradiction | (exfalso; omega) | (exfalso; revert h; simp; done) | skip) | ((first | refine SL.W.guardB (fun h => ?_) (fun h => ?_) | refine SL.W.dguardB (fun h => ?_) (fun h => ?_)) <;> (fail_if_success (have : h = (rfl : true = true) := rfl)) <;> (fail_if_success (have : h = (rfl : false = false) := rfl))) | refine SL.W.condB (fun h => ?_) (fun h => ?_) | (refine SL.TD.is ?_; first | refine SL.W.done ?_ | refine SL.W.dtwo ?_ ?_ | refine SL.W.dthree ?_ ?_ ?_))
  all_goals exact SL.TK.retD Tryz.func102 (SL.Res.one rfl (by rfl)) ⟨rfl, rfl⟩ (EntD.cons (by first | ((repeat (first | exact SL.Pick.head | apply SL.Pick.tail)); done) | fail) EntD.nil)
theorem tabRead0 (tb : Nat) : Spec Tryz.prog 73 [.pointer (some ⟨tb, 0, none⟩), .int .i64 0, .int .i64 0] [TabE tb] (fun r L => r = .tuple #[.slice none 0 0, .int .i64 0] ∧ L = [TabE tb]) := by
  have hp := Lib.hid (part_nil 0)
  refine SL.Spec.of_TK Go.Proofs.Tryz.func73 rfl rfl SL.call73 rfl ?_
  unfold TabE tabC
  repeat' (first | (refine SL.TO.is ?_; first | (refine SL.W.quick ?_; first | refine SL.W.pass ?_ | refine SL.W.pv ?_ | refine SL.W.pv0 ?_) | (refine SL.TO.door (o := ⟨_, .call _, _, _, _, _⟩) ?_; first | (refine SL.TO.door (o := ⟨_, .call ⟨.value (.func 102), _, _⟩, _, _, _, _⟩) ?_; first | (refine SL.W.call (right0 _ _ _ _) ?_; rintro _ _ ⟨rfl, rfl⟩; try simp only [SL.aps])) | (refine SL.TO.door (o := ⟨_, .call ⟨.value (.func 103), _, _⟩, _, _, _, _⟩) ?_; first | (refine SL.W.call (hp.out) ?_; rintro _ _ ⟨rfl, rfl⟩; try simp only [SL.aps]))) | refine SL.TO.nil ?_ | (refine SL.TO.nilD ?_; simp only [SL.setB]) | refine SL.W.pass ?_ | refine SL.W.pass0 ?_ | (refine SL.W.pure ?_; first | refine SL.W.pv ?_ | refine SL.W.pv0 ?_) | (refine SL.W.loud ?_; first | refine SL.W.load ?_ | refine SL.W.loadA ?_ | refine SL.W.store ?_ | refine SL.W.storeA ?_ | (refine SL.W.box ?_; intro b) | (refine SL.W.alloc ?_; intro b) | (refine SL.W.buildSlice ?_; intro b) | (refine SL.W.append ?_; intro a cap) | refine SL.W.bytesToStr ?_ | refine SL.W.toIntC ?_ | (refine SL.W.makeSlice ?_; intro b))) | (refine SL.TK.lp ?_; first | (refine SL.TK.block ?_; refine SL.TK.enter ?_)) | (refine SL.TK.is ?_; first | refine SL.TK.seq ?_ | refine SL.TK.region ?_ | refine SL.TK.regionD SL.mixed (by simp only [SL.falses] <;> rfl) ?_ | refine SL.TK.block ?_ | refine SL.TK.inBlock ?_ | refine SL.TK.skip ?_ | refine SL.TK.scope ?_ | refine SL.TK.inScope ?_ | refine SL.TK.label ?_ | (refine SL.TK.isExit ?_; refine SL.W.exit ?_) | refine SL.W.condT ?_ | refine SL.W.condF ?_) | (refine SL.TD.is ?_; first | (refine SL.W.dfin ?_; simp only [SL.aps]) | refine SL.W.dpass ?_ | refine SL.W.dpure ?_ | refine SL.W.dload ?_ | refine SL.W.dloadA ?_ | refine SL.W.dfrz ?_ | (refine SL.W.dthaw ?_; simp only [SL.aps])) | ((first | refine SL.W.guardP (fun h => ?_) (fun h => ?_) | refine SL.W.condP (fun h => ?_) (fun h => ?_) | refine SL.W.dguardP (fun h => ?_) (fun h => ?_)) <;> (fail_if_success (have : h = trivial := rfl)) <;> (fail_if_success (have : h = not_false := rfl)) <;> first | contradiction | (exfalso; omega) | (exfalso; revert h; simp; done) | skip) | ((first | refine SL.W.guardB (fun h => ?_) (fun h => ?_) | refine SL.W.dguardB (fun h => ?_) (fun h => ?_)) <;> (fail_if_success (have : h = (rfl : true = true) := rfl)) <;> (fail_if_success (have : h = (rfl : false = false) := rfl))) | refine SL.W.condB (fun h => ?_) (fun h => ?_) | (refine SL.TD.is ?_; first | refine SL.W.done ?_ | refine SL.W.dtwo ?_ ?_ | refine SL.W.dthree ?_ ?_ ?_))
  all_goals exact SL.TK.retD Tryz.func73 (SL.Res.two rfl (by rfl) (by rfl)) ⟨rfl, rfl⟩ (EntD.cons (by first | ((repeat (first | exact SL.Pick.head | apply SL.Pick.tail)); done) | fail) EntD.nil)
theorem tabText0 (tb : Nat) : Spec Tryz.prog 47 [.pointer (some ⟨tb, 0, none⟩)] [TabE tb] (fun r L => r = .slice none 0 0 ∧ L = [TabE tb]) := by
  have hr := Lib.hid (tabRead0 tb)
  have hl := Lib.hid (show Spec Tryz.prog 74 [.pointer (some ⟨tb, 0, none⟩)] [TabE tb] (fun r L => r = .int .i64 0 ∧ L = [TabE tb]) from tabLen_spec tb _ _ _ 0)
  refine SL.Spec.of_TK Go.Proofs.Tryz.func47 rfl rfl SL.call47 rfl ?_
  repeat' (first | (refine SL.TO.is ?_; first | (refine SL.W.quick ?_; first | refine SL.W.pass ?_ | refine SL.W.pv ?_ | refine SL.W.pv0 ?_) | (refine SL.TO.door (o := ⟨_, .call _, _, _, _, _⟩) ?_; first | (refine SL.TO.door (o := ⟨_, .call ⟨.value (.func 74), _, _⟩, _, _, _, _⟩) ?_; first | (refine SL.W.call (hl.out) ?_; rintro _ _ ⟨rfl, rfl⟩; try simp only [SL.aps])) | (refine SL.TO.door (o := ⟨_, .call ⟨.value (.func 73), _, _⟩, _, _, _, _⟩) ?_; first | (refine SL.W.call (hr.out) ?_; rintro _ _ ⟨rfl, rfl⟩; try simp only [SL.aps]))) | refine SL.TO.nil ?_ | (refine SL.TO.nilD ?_; simp only [SL.setB]) | refine SL.W.pass ?_ | refine SL.W.pass0 ?_ | (refine SL.W.pure ?_; first | refine SL.W.pv ?_ | refine SL.W.pv0 ?_) | (refine SL.W.loud ?_; first | refine SL.W.load ?_ | refine SL.W.loadA ?_ | refine SL.W.store ?_ | refine SL.W.storeA ?_ | (refine SL.W.box ?_; intro b) | (refine SL.W.alloc ?_; intro b) | (refine SL.W.buildSlice ?_; intro b) | (refine SL.W.append ?_; intro a cap) | refine SL.W.bytesToStr ?_ | refine SL.W.toIntC ?_ | (refine SL.W.makeSlice ?_; intro b))) | (refine SL.TK.is ?_; first | refine SL.TK.seq ?_ | refine SL.TK.region ?_ | refine SL.TK.regionD SL.mixed (by simp only [SL.falses] <;> rfl) ?_ | refine SL.TK.block ?_ | refine SL.TK.inBlock ?_ | refine SL.TK.skip ?_ | refine SL.TK.scope ?_ | refine SL.TK.inScope ?_ | refine SL.TK.label ?_ | (refine SL.TK.isExit ?_; refine SL.W.exit ?_) | refine SL.W.condT ?_ | refine SL.W.condF ?_) | (refine SL.TD.is ?_; first | (refine SL.W.dfin ?_; simp only [SL.aps]) | refine SL.W.dpass ?_ | refine SL.W.dpure ?_ | refine SL.W.dload ?_ | refine SL.W.dloadA ?_ | refine SL.W.dfrz ?_ | (refine SL.W.dthaw ?_; simp only [SL.aps])) | ((first | refine SL.W.guardP (fun h => ?_) (fun h => ?_) | refine SL.W.condP (fun h => ?_) (fun h => ?_) | refine SL.W.dguardP (fun h => ?_) (fun h => ?_)) <;> (fail_if_success (have : h = trivial := rfl)) <;> (fail_if_success (have : h = not_false := rfl)) <;> first | contradiction | (exfalso; omega) | (exfalso; revert h; simp; done) | skip) | ((first | refine SL.W.guardB (fun h => ?_) (fun h => ?_) | refine SL.W.dguardB (fun h => ?_) (fun h => ?_)) <;> (fail_if_success (have : h = (rfl : true = true) := rfl)) <;> (fail_if_success (have : h = (rfl : false = false) := rfl))) | refine SL.W.condB (fun h => ?_) (fun h => ?_) | (refine SL.TD.is ?_; first | refine SL.W.done ?_ | refine SL.W.dtwo ?_ ?_ | refine SL.W.dthree ?_ ?_ ?_))
  all_goals exact SL.TK.retD Tryz.func47 (SL.Res.one rfl (by rfl)) ⟨rfl, rfl⟩ (EntD.cons (by first | ((repeat (first | exact SL.Pick.head | apply SL.Pick.tail)); done) | fail) EntD.nil)
end SL
end
section
set_option linter.unusedVariables false
set_option linter.unusedSimpArgs false
set_option maxRecDepth 10000
namespace SL
open Go Go.Proofs Go.RowKit
def docC (tb pb lb mb : Nat) (turn : Int) : List Value := [.pointer (some ⟨tb, 0, none⟩), .pointer (some ⟨pb, 0, none⟩), .pointer (some ⟨lb, 0, none⟩), .pointer (some ⟨mb, 0, none⟩), .int .u64 turn]
def FreshD (db : Nat) : HProp := SL.ex fun p : Nat × Nat × Nat × Nat => seps [SL.blk db 111 (docC p.1 p.2.1 p.2.2.1 p.2.2.2 0), TabE p.1, PastE p.2.1, Lz.LeasesAt p.2.2.1 [], MarksAt p.2.2.2 0 []]
theorem fresh_shut {db tb pb lb mb : Nat} : ∀ h, seps [SL.blk db 111 (docC tb pb lb mb 0), TabE tb, PastE pb, Lz.LeasesAt lb [], MarksAt mb 0 []] h → FreshD db h := fun h x => ⟨(tb, pb, lb, mb), x⟩
section
variable {P : Program} {fid : Fm} {n : Nat} {post : Post} {k : List Item} {ρ : Env} {L L' r : List HProp}
theorem TK.openFD {db : Nat} (hp : Pick L (FreshD db) r) (h : ∀ tb pb lb mb, TK P fid n post k ρ (SL.blk db 111 (docC tb pb lb mb 0) :: TabE tb :: PastE pb :: Lz.LeasesAt lb [] :: MarksAt mb 0 [] :: r)) : TK P fid n post k ρ L :=
  TK.exC hp fun p => TK.sepsC Pick.head (h p.1 p.2.1 p.2.2.1 p.2.2.2)
end
theorem wr_new {wb : Nat} {L r : List HProp} (hp : Pick L (SL.blk wb 71 [.slice none 0 0]) r) : EntD L (WrAt wb [] :: r) :=
  EntD.trans (EntD.of_ent (Ent.own_nil (e := 5) (sz := 1) Ent.refl)) (EntD.frm (Frm.cons (Pick.tail hp) (Frm.cons Pick.head Frm.nil)) (wr_shut (a := none) (c := 0) (bs := [])) EntD.refl)
theorem pastE_open {pb : Nat} : ∀ h, seps [PastE pb] h → ∃ p : Option Addr × Nat, seps [SL.blk pb 201 [.int .u64 0, .slice none 0 0, .slice p.1 1 p.2, .bool true], own 3 1 p.1 1 p.2 [.int .i64 0]] h := by
  intro h x
  obtain ⟨h1, h2, d, rfl, ⟨p, hp⟩, he⟩ := x
  refine ⟨p, ?_⟩
  rwa [show join h1 h2 = h1 from by
    funext b
    unfold join
    cases hb : h1 b with
    | none => exact he b
    | some o => simp]
attribute [local irreducible] SL.TK SL.TO SL.TD SL.PV SL.Pick SL.Frm SL.Ent SL.Sub SL.EvAll SL.seps SL.sep SL.Cut SL.PutAt SL.blk SL.EvP SL.Fill SL.Src SL.EntD SL.own SL.ex SL.fact SL.orig
theorem docNone_spec (db : Nat) (x y z u : Value) (tb : Nat) : Spec Tryz.prog 46 [.pointer (some ⟨db, 0, none⟩)] [SL.blk db 111 [.pointer (some ⟨tb, 0, none⟩), x, y, z, u]] (fun r L => r = .bool false ∧ L = [SL.blk db 111 [.pointer (some ⟨tb, 0, none⟩), x, y, z, u]]) := by
  refine SL.Spec.of_TK Go.Proofs.Tryz.func46 rfl rfl SL.call46 rfl ?_
  repeat' (first | (refine SL.TO.is ?_; first | (refine SL.W.quick ?_; first | refine SL.W.pass ?_ | refine SL.W.pv ?_ | refine SL.W.pv0 ?_) | refine SL.TO.nil ?_ | (refine SL.TO.nilD ?_; simp only [SL.setB]) | refine SL.W.pass ?_ | refine SL.W.pass0 ?_ | (refine SL.W.pure ?_; first | refine SL.W.pv ?_ | refine SL.W.pv0 ?_ | refine SL.W.lenMp ?_) | (refine SL.W.loud ?_; first | refine SL.W.load ?_ | refine SL.W.loadA ?_ | refine SL.W.store ?_ | refine SL.W.storeA ?_ | (refine SL.W.box ?_; intro b) | (refine SL.W.alloc ?_; intro b) | (refine SL.W.buildSlice ?_; intro b) | (refine SL.W.append ?_; intro a cap) | refine SL.W.bytesToStr ?_ | refine SL.W.toIntC ?_ | (refine SL.W.makeSlice ?_; intro b) | refine SL.W.lookupOk ?_ | refine SL.W.lookup ?_ | (refine SL.W.makeMap ?_; intro b) | refine SL.W.mapUpdate ?_ | (refine SL.W.mapEntry ?_; intro stamp) | refine SL.W.entryStore ?_ | (refine SL.W.range ?_; intro it) | refine SL.W.delete ?_)) | (refine SL.TK.is ?_; first | refine SL.TK.seq ?_ | refine SL.TK.region ?_ | refine SL.TK.regionD SL.mixed (by simp only [SL.falses] <;> rfl) ?_ | refine SL.TK.block ?_ | refine SL.TK.inBlock ?_ | refine SL.TK.skip ?_ | refine SL.TK.scope ?_ | refine SL.TK.inScope ?_ | refine SL.TK.label ?_ | (refine SL.TK.isExit ?_; refine SL.W.exit ?_) | refine SL.W.condT ?_ | refine SL.W.condF ?_) | (refine SL.TD.is ?_; first | (refine SL.W.dfin ?_; simp only [SL.aps]) | refine SL.W.dpass ?_ | refine SL.W.dpure ?_ | refine SL.W.dload ?_ | refine SL.W.dloadA ?_ | refine SL.W.dfrz ?_ | (refine SL.W.dthaw ?_; simp only [SL.aps])) | ((first | refine SL.W.guardP (fun h => ?_) (fun h => ?_) | refine SL.W.condP (fun h => ?_) (fun h => ?_) | refine SL.W.dguardP (fun h => ?_) (fun h => ?_)) <;> (fail_if_success (have : h = trivial := rfl)) <;> (fail_if_success (have : h = not_false := rfl)) <;> first | contradiction | (exfalso; omega) | (exfalso; revert h; simp; done) | skip) | ((first | refine SL.W.guardB (fun h => ?_) (fun h => ?_) | refine SL.W.dguardB (fun h => ?_) (fun h => ?_)) <;> (fail_if_success (have : h = (rfl : true = true) := rfl)) <;> (fail_if_success (have : h = (rfl : false = false) := rfl))) | refine SL.W.condB (fun h => ?_) (fun h => ?_) | (refine SL.TD.is ?_; first | refine SL.W.done ?_ | refine SL.W.dtwo ?_ ?_ | refine SL.W.dthree ?_ ?_ ?_))
  all_goals exact SL.TK.retD Tryz.func46 (SL.Res.one rfl (by rfl)) ⟨rfl, rfl⟩ (EntD.cons (by first | ((repeat (first | exact SL.Pick.head | apply SL.Pick.tail)); done) | fail) EntD.nil)
theorem mkNew0 : Spec Tryz.prog 138 [.int .i64 0] [] (fun r L => ∃ nb, r = .tuple #[.pointer (some ⟨nb, 0, none⟩), .int .i64 0] ∧ L = [MarksAt nb 0 []]) := by
  refine SL.Spec.postD (mkNew_spec 0) ?_
  rintro v L (⟨h, _⟩ | ⟨_, nb, rfl, rfl⟩)
  · omega
  · exact ⟨_, ⟨nb, rfl, rfl⟩, EntD.refl⟩
theorem docNew_spec : Spec Tryz.prog 100 [] [] (fun r L => ∃ db, r = .pointer (some ⟨db, 0, none⟩) ∧ L = [FreshD db]) := by
  refine SL.Spec.of_TK Go.Proofs.Tryz.func100 rfl rfl SL.call100 rfl ?_
  repeat' (first | (refine SL.TO.is ?_; first | (refine SL.W.quick ?_; first | refine SL.W.pass ?_ | refine SL.W.pv ?_ | refine SL.W.pv0 ?_) | (refine SL.TO.door (o := ⟨_, .call _, _, _, _, _⟩) ?_; first | (refine SL.TO.door (o := ⟨_, .call ⟨.value (.func 135), _, _⟩, _, _, _, _⟩) ?_; first | (refine SL.W.call (tabNew_nil) ?_; rintro _ _ ⟨tb, rfl, rfl⟩; try simp only [SL.aps])) | (refine SL.TO.door (o := ⟨_, .call ⟨.value (.func 136), _, _⟩, _, _, _, _⟩) ?_; first | (refine SL.W.call (pastNew0) ?_; rintro _ _ ⟨pb, rfl, rfl⟩; try simp only [SL.aps])) | (refine SL.TO.door (o := ⟨_, .call ⟨.value (.func 137), _, _⟩, _, _, _, _⟩) ?_; first | (refine SL.W.call (Lz.lsNew0_spec) ?_; rintro _ _ ⟨lb, rfl, rfl⟩; try simp only [SL.aps])) | (refine SL.TO.door (o := ⟨_, .call ⟨.value (.func 138), _, _⟩, _, _, _, _⟩) ?_; first | (refine SL.W.call (mkNew0) ?_; rintro _ _ ⟨mb, rfl, rfl⟩; try simp only [SL.aps]))) | refine SL.TO.nil ?_ | (refine SL.TO.nilD ?_; simp only [SL.setB]) | refine SL.W.pass ?_ | refine SL.W.pass0 ?_ | (refine SL.W.pure ?_; first | refine SL.W.pv ?_ | refine SL.W.pv0 ?_ | refine SL.W.lenMp ?_) | (refine SL.W.loud ?_; first | refine SL.W.load ?_ | refine SL.W.loadA ?_ | refine SL.W.store ?_ | refine SL.W.storeA ?_ | (refine SL.W.box ?_; intro b) | (refine SL.W.alloc ?_; intro b) | (refine SL.W.buildSlice ?_; intro b) | (refine SL.W.append ?_; intro a cap) | refine SL.W.bytesToStr ?_ | refine SL.W.toIntC ?_ | (refine SL.W.makeSlice ?_; intro b) | refine SL.W.lookupOk ?_ | refine SL.W.lookup ?_ | (refine SL.W.makeMap ?_; intro b) | refine SL.W.mapUpdate ?_ | (refine SL.W.mapEntry ?_; intro stamp) | refine SL.W.entryStore ?_ | (refine SL.W.range ?_; intro it) | refine SL.W.delete ?_)) | (refine SL.TK.is ?_; first | refine SL.TK.seq ?_ | refine SL.TK.region ?_ | refine SL.TK.regionD SL.mixed (by simp only [SL.falses] <;> rfl) ?_ | refine SL.TK.block ?_ | refine SL.TK.inBlock ?_ | refine SL.TK.skip ?_ | refine SL.TK.scope ?_ | refine SL.TK.inScope ?_ | refine SL.TK.label ?_ | (refine SL.TK.isExit ?_; refine SL.W.exit ?_) | refine SL.W.condT ?_ | refine SL.W.condF ?_) | (refine SL.TD.is ?_; first | (refine SL.W.dfin ?_; simp only [SL.aps]) | refine SL.W.dpass ?_ | refine SL.W.dpure ?_ | refine SL.W.dload ?_ | refine SL.W.dloadA ?_ | refine SL.W.dfrz ?_ | (refine SL.W.dthaw ?_; simp only [SL.aps])) | ((first | refine SL.W.guardP (fun h => ?_) (fun h => ?_) | refine SL.W.condP (fun h => ?_) (fun h => ?_) | refine SL.W.dguardP (fun h => ?_) (fun h => ?_)) <;> (fail_if_success (have : h = trivial := rfl)) <;> (fail_if_success (have : h = not_false := rfl)) <;> first | contradiction | (exfalso; omega) | (exfalso; revert h; simp; done) | skip) | ((first | refine SL.W.guardB (fun h => ?_) (fun h => ?_) | refine SL.W.dguardB (fun h => ?_) (fun h => ?_)) <;> (fail_if_success (have : h = (rfl : true = true) := rfl)) <;> (fail_if_success (have : h = (rfl : false = false) := rfl))) | refine SL.W.condB (fun h => ?_) (fun h => ?_) | (refine SL.TD.is ?_; first | refine SL.W.done ?_ | refine SL.W.dtwo ?_ ?_ | refine SL.W.dthree ?_ ?_ ?_))
  all_goals exact SL.TK.retD Tryz.func100 (SL.Res.one rfl (by rfl)) ⟨_, rfl, rfl⟩ (EntD.frm (by first | ((repeat (first | exact SL.Frm.nil | exact SL.Frm.refl | (apply SL.Frm.cons; repeat (first | exact SL.Pick.head | apply SL.Pick.tail)))); done) | fail) fresh_shut EntD.nil)
set_option maxHeartbeats 2000000 in
theorem docCopy_spec (db : Nat) : Spec Tryz.prog 77 [.pointer (some ⟨db, 0, none⟩)] [FreshD db] (fun r L => ∃ cb, r = .pointer (some ⟨cb, 0, none⟩) ∧ L = [FreshD cb, FreshD db]) := by
  have hT := Lib.hid fun (tb : Nat) => SL.Spec.postD (tabCopy_spec tb) (post' := fun r L => ∃ cb, r = .pointer (some ⟨cb, 0, none⟩) ∧ L = [TabE tb, TabE cb]) (fun v L h => by
    obtain ⟨cb, rfl, rfl⟩ := h
    exact ⟨_, ⟨cb, rfl, rfl⟩, EntD.cons (by first | ((repeat (first | exact SL.Pick.head | apply SL.Pick.tail)); done) | fail) (EntD.cons (by first | ((repeat (first | exact SL.Pick.head | apply SL.Pick.tail)); done) | fail) EntD.nil)⟩)
  have hP := Lib.hid fun (pb : Nat) => SL.Spec.postD (pastCopy_spec pb) (post' := fun r L => ∃ cb, r = .pointer (some ⟨cb, 0, none⟩) ∧ L = [PastE pb, PastE cb]) (fun v L h => by
    obtain ⟨cb, rfl, rfl⟩ := h
    exact ⟨_, ⟨cb, rfl, rfl⟩, EntD.cons (by first | ((repeat (first | exact SL.Pick.head | apply SL.Pick.tail)); done) | fail) (EntD.cons (by first | ((repeat (first | exact SL.Pick.head | apply SL.Pick.tail)); done) | fail) EntD.nil)⟩)
  have hL := Lib.hid fun (lb : Nat) => SL.Spec.postD (Lz.lsCopy_spec lb []) (post' := fun r L => ∃ cb, r = .pointer (some ⟨cb, 0, none⟩) ∧ L = [Lz.LeasesAt lb [], Lz.LeasesAt cb []]) (fun v L h => by
    obtain ⟨cb, rfl, rfl⟩ := h
    exact ⟨_, ⟨cb, rfl, rfl⟩, EntD.cons (by first | ((repeat (first | exact SL.Pick.head | apply SL.Pick.tail)); done) | fail) (EntD.cons (by first | ((repeat (first | exact SL.Pick.head | apply SL.Pick.tail)); done) | fail) EntD.nil)⟩)
  have hM := Lib.hid fun (mb : Nat) => SL.Spec.postD (mkCopy_spec mb 0 []) (post' := fun r L => ∃ cb, r = .pointer (some ⟨cb, 0, none⟩) ∧ L = [MarksAt mb 0 [], MarksAt cb 0 []]) (fun v L h => by
    obtain ⟨cb, rfl, rfl⟩ := h
    exact ⟨_, ⟨cb, rfl, rfl⟩, EntD.cons (by first | ((repeat (first | exact SL.Pick.head | apply SL.Pick.tail)); done) | fail) (EntD.cons (by first | ((repeat (first | exact SL.Pick.head | apply SL.Pick.tail)); done) | fail) EntD.nil)⟩)
  refine SL.Spec.of_TK Go.Proofs.Tryz.func77 rfl rfl SL.call77 rfl ?_
  refine SL.TK.openFD (by first | ((repeat (first | exact SL.Pick.head | apply SL.Pick.tail)); done) | fail) (fun tb pb lb mb => ?_)
  unfold docC
  repeat' (first | (refine SL.TO.is ?_; first | (refine SL.W.quick ?_; first | refine SL.W.pass ?_ | refine SL.W.pv ?_ | refine SL.W.pv0 ?_) | (refine SL.TO.door (o := ⟨_, .call _, _, _, _, _⟩) ?_; first | (refine SL.TO.door (o := ⟨_, .call ⟨.value (.func 46), _, _⟩, _, _, _, _⟩) ?_; first | (refine SL.W.call (docNone_spec _ _ _ _ _ _) ?_; rintro _ _ ⟨rfl, rfl⟩; try simp only [SL.aps])) | (refine SL.TO.door (o := ⟨_, .call ⟨.value (.func 106), _, _⟩, _, _, _, _⟩) ?_; first | (refine SL.W.callG (hT.out _) ?_; rintro _ _ ⟨c1, rfl, rfl⟩; refine ⟨[TabE c1], rfl, ?_⟩; try simp only [SL.aps])) | (refine SL.TO.door (o := ⟨_, .call ⟨.value (.func 107), _, _⟩, _, _, _, _⟩) ?_; first | (refine SL.W.callG (hP.out _) ?_; rintro _ _ ⟨c2, rfl, rfl⟩; refine ⟨[PastE c2], rfl, ?_⟩; try simp only [SL.aps])) | (refine SL.TO.door (o := ⟨_, .call ⟨.value (.func 108), _, _⟩, _, _, _, _⟩) ?_; first | (refine SL.W.callG (hL.out _) ?_; rintro _ _ ⟨c3, rfl, rfl⟩; refine ⟨[Lz.LeasesAt c3 []], rfl, ?_⟩; try simp only [SL.aps])) | (refine SL.TO.door (o := ⟨_, .call ⟨.value (.func 109), _, _⟩, _, _, _, _⟩) ?_; first | (refine SL.W.callG (hM.out _) ?_; rintro _ _ ⟨c4, rfl, rfl⟩; refine ⟨[MarksAt c4 0 []], rfl, ?_⟩; try simp only [SL.aps]))) | refine SL.TO.nil ?_ | (refine SL.TO.nilD ?_; simp only [SL.setB]) | refine SL.W.pass ?_ | refine SL.W.pass0 ?_ | (refine SL.W.pure ?_; first | refine SL.W.pv ?_ | refine SL.W.pv0 ?_ | refine SL.W.lenMp ?_) | (refine SL.W.loud ?_; first | refine SL.W.load ?_ | refine SL.W.loadA ?_ | refine SL.W.store ?_ | refine SL.W.storeA ?_ | (refine SL.W.box ?_; intro b) | (refine SL.W.alloc ?_; intro b) | (refine SL.W.buildSlice ?_; intro b) | (refine SL.W.append ?_; intro a cap) | refine SL.W.bytesToStr ?_ | refine SL.W.toIntC ?_ | (refine SL.W.makeSlice ?_; intro b) | refine SL.W.lookupOk ?_ | refine SL.W.lookup ?_ | (refine SL.W.makeMap ?_; intro b) | refine SL.W.mapUpdate ?_ | (refine SL.W.mapEntry ?_; intro stamp) | refine SL.W.entryStore ?_ | (refine SL.W.range ?_; intro it) | refine SL.W.delete ?_)) | (refine SL.TK.is ?_; first | refine SL.TK.seq ?_ | refine SL.TK.region ?_ | refine SL.TK.regionD SL.mixed (by simp only [SL.falses] <;> rfl) ?_ | refine SL.TK.block ?_ | refine SL.TK.inBlock ?_ | refine SL.TK.skip ?_ | refine SL.TK.scope ?_ | refine SL.TK.inScope ?_ | refine SL.TK.label ?_ | (refine SL.TK.isExit ?_; refine SL.W.exit ?_) | refine SL.W.condT ?_ | refine SL.W.condF ?_) | (refine SL.TD.is ?_; first | (refine SL.W.dfin ?_; simp only [SL.aps]) | refine SL.W.dpass ?_ | refine SL.W.dpure ?_ | refine SL.W.dload ?_ | refine SL.W.dloadA ?_ | refine SL.W.dfrz ?_ | (refine SL.W.dthaw ?_; simp only [SL.aps])) | ((first | refine SL.W.guardP (fun h => ?_) (fun h => ?_) | refine SL.W.condP (fun h => ?_) (fun h => ?_) | refine SL.W.dguardP (fun h => ?_) (fun h => ?_)) <;> (fail_if_success (have : h = trivial := rfl)) <;> (fail_if_success (have : h = not_false := rfl)) <;> first | contradiction | (exfalso; omega) | (exfalso; revert h; simp; done) | skip) | ((first | refine SL.W.guardB (fun h => ?_) (fun h => ?_) | refine SL.W.dguardB (fun h => ?_) (fun h => ?_)) <;> (fail_if_success (have : h = (rfl : true = true) := rfl)) <;> (fail_if_success (have : h = (rfl : false = false) := rfl))) | refine SL.W.condB (fun h => ?_) (fun h => ?_) | (refine SL.TD.is ?_; first | refine SL.W.done ?_ | refine SL.W.dtwo ?_ ?_ | refine SL.W.dthree ?_ ?_ ?_))
  all_goals exact SL.TK.retD Tryz.func77 (SL.Res.one rfl (by rfl)) ⟨_, rfl, rfl⟩ (EntD.frm (by first | ((repeat (first | exact SL.Frm.nil | exact SL.Frm.refl | (apply SL.Frm.cons; repeat (first | exact SL.Pick.head | apply SL.Pick.tail)))); done) | fail) fresh_shut (EntD.frm (by first | ((repeat (first | exact SL.Frm.nil | exact SL.Frm.refl | (apply SL.Frm.cons; repeat (first | exact SL.Pick.head | apply SL.Pick.tail)))); done) | fail) fresh_shut EntD.nil))
def z6 : List UInt8 := [0, 0, 0, 0, 0, 0]
theorem wNum0 (wb : Nat) (bs : List UInt8) (h : bs.length ≤ 100) : Spec Tryz.prog 35 [.pointer (some ⟨wb, 0, none⟩), .int .u64 0] [WrAt wb bs] (fun r L => r = .tuple #[] ∧ L = [WrAt wb (bs ++ [0])]) := by
  have := wNum_spec wb bs (by omega) 0 (by omega)
  have e : putN 0 = [0] := by simp [putN, putF]
  rw [e] at this
  exact this
theorem wNumZ (wb k : Nat) (h : k ≤ 100) : Spec Tryz.prog 35 [.pointer (some ⟨wb, 0, none⟩), .int .u64 0] [WrAt wb (List.replicate k 0)] (fun r L => r = .tuple #[] ∧ L = [WrAt wb (List.replicate (k + 1) 0)]) := by
  have := wNum0 wb (List.replicate k 0) (by simpa using h)
  rw [List.replicate_succ']
  exact this
set_option maxHeartbeats 2000000 in
theorem docBytes0 (db : Nat) : Spec Tryz.prog 59 [.pointer (some ⟨db, 0, none⟩)] [FreshD db] (fun r L => ∃ a c, r = .slice a 6 c ∧ a ≠ none ∧ L = [own 5 1 a 6 c (z6.map byteV), FreshD db]) := by
  have hL := Lib.hid fun (pb : Nat) => paLength0 pb
  have hS := Lib.hid fun (pb : Nat) => paSince0 pb
  have hF := Lib.hid fun (pb : Nat) => (show Spec Tryz.prog 82 [.pointer (some ⟨pb, 0, none⟩)] [PastE pb] (fun r L => r = .int .u64 0 ∧ L = [PastE pb]) from by
    refine SL.Spec.openEx (pre' := fun p : Option Addr × Nat => [SL.blk pb 201 [.int .u64 0, .slice none 0 0, .slice p.1 1 p.2, .bool true], own 3 1 p.1 1 p.2 [.int .i64 0]]) ⟨(none, 0)⟩ (fun h x => ?_) (fun p => SL.Spec.postD ((paFrom pb 0 none 0 0 (.slice p.1 1 p.2)).framed [own 3 1 p.1 1 p.2 [.int .i64 0]] (Frm.cons Pick.head Frm.nil)) (fun v L h => by
      obtain ⟨L1, ⟨rfl, rfl⟩, rfl⟩ := h
      exact ⟨_, ⟨rfl, rfl⟩, EntD.frm (by first | ((repeat (first | exact SL.Frm.nil | exact SL.Frm.refl | (apply SL.Frm.cons; repeat (first | exact SL.Pick.head | apply SL.Pick.tail)))); done) | fail) pastE_shut EntD.nil⟩))
    exact pastE_open h x)
  have hA := Lib.hid fun (lb : Nat) => (show Spec Tryz.prog 86 [.pointer (some ⟨lb, 0, none⟩)] [Lz.LeasesAt lb []] (fun r L => ∃ a c, r = .slice a 0 c ∧ L = [Lz.LeasesAt lb []]) from SL.Spec.postD (Lz.lsAll_spec 12 (by omega) Lz.sort12 lb [] (by simp)) (fun v L h => by
    obtain ⟨a, c, rfl, rfl⟩ := h
    exact ⟨_, ⟨a, c, by simp [srt_length], rfl⟩, EntD.cons (by first | ((repeat (first | exact SL.Pick.head | apply SL.Pick.tail)); done) | fail) EntD.nil⟩))
  refine SL.Spec.of_TK Go.Proofs.Tryz.func59 rfl rfl SL.call59 rfl ?_
  refine SL.TK.openFD (by first | ((repeat (first | exact SL.Pick.head | apply SL.Pick.tail)); done) | fail) (fun tb pb lb mb => ?_)
  unfold docC
  repeat' (first | (refine SL.TO.is ?_; first | (refine SL.W.quick ?_; first | refine SL.W.pass ?_ | refine SL.W.pv ?_ | refine SL.W.pv0 ?_) | (refine SL.TO.door (o := ⟨_, .call _, _, _, _, _⟩) ?_; first | (refine SL.TO.door (o := ⟨_, .call ⟨.value (.func 46), _, _⟩, _, _, _, _⟩) ?_; first | (refine SL.W.call (docNone_spec _ _ _ _ _ _) ?_; rintro _ _ ⟨rfl, rfl⟩; try simp only [SL.aps])) | (refine SL.TO.door (o := ⟨_, .call ⟨.value (.func 82), _, _⟩, _, _, _, _⟩) ?_; first | refine SL.W.callQ (hF.out _) ?_ | (refine SL.W.call (hF.out _) ?_; rintro _ _ ⟨rfl, rfl⟩; try simp only [SL.aps])) | (refine SL.TO.door (o := ⟨_, .call ⟨.value (.func 81), _, _⟩, _, _, _, _⟩) ?_; first | refine SL.W.callQ (hL.out _) ?_) | (refine SL.TO.door (o := ⟨_, .call ⟨.value (.func 83), _, _⟩, _, _, _, _⟩) ?_; first | refine SL.W.callQ (hS.out _) ?_) | (refine SL.TO.door (o := ⟨_, .call ⟨.value (.func 35), _, _⟩, _, _, _, _⟩) ?_; first | (refine SL.TO.entD (wr_new (by first | ((repeat (first | exact SL.Pick.head | apply SL.Pick.tail)); done) | fail)) ?_; (refine SL.W.call (wNumZ _ 0 (by decide)) ?_; rintro _ _ ⟨rfl, rfl⟩; try simp only [SL.aps])) | (refine SL.W.call (wNumZ _ 1 (by decide)) ?_; rintro _ _ ⟨rfl, rfl⟩; try simp only [SL.aps]) | (refine SL.W.call (wNumZ _ 2 (by decide)) ?_; rintro _ _ ⟨rfl, rfl⟩; try simp only [SL.aps]) | (refine SL.W.call (wNumZ _ 3 (by decide)) ?_; rintro _ _ ⟨rfl, rfl⟩; try simp only [SL.aps]) | (refine SL.W.call (wNumZ _ 4 (by decide)) ?_; rintro _ _ ⟨rfl, rfl⟩; try simp only [SL.aps]) | (refine SL.W.call (wNumZ _ 5 (by decide)) ?_; rintro _ _ ⟨rfl, rfl⟩; try simp only [SL.aps])) | (refine SL.TO.door (o := ⟨_, .call ⟨.value (.func 47), _, _⟩, _, _, _, _⟩) ?_; first | (refine SL.W.call (tabText0 _) ?_; rintro _ _ ⟨rfl, rfl⟩; try simp only [SL.aps])) | (refine SL.TO.door (o := ⟨_, .call ⟨.value (.func 86), _, _⟩, _, _, _, _⟩) ?_; first | (refine SL.W.call (hA.out _) ?_; rintro _ _ ⟨la, lc, rfl, rfl⟩; try simp only [SL.aps])) | (refine SL.TO.door (o := ⟨_, .call ⟨.value (.func 37), _, _⟩, _, _, _, _⟩) ?_; first | (refine SL.W.call (wOut_spec _ (List.replicate 6 0) (by decide)) ?_; rintro _ _ ⟨oa, oc, rfl, hoa, rfl⟩; try simp only [SL.aps]))) | refine SL.TO.nil ?_ | (refine SL.TO.nilD ?_; simp only [SL.setB]) | refine SL.W.pass ?_ | refine SL.W.pass0 ?_ | (refine SL.W.pure ?_; first | refine SL.W.pv ?_ | refine SL.W.pv0 ?_ | refine SL.W.lenMp ?_) | (refine SL.W.loud ?_; first | refine SL.W.load ?_ | refine SL.W.loadA ?_ | refine SL.W.store ?_ | refine SL.W.storeA ?_ | (refine SL.W.box ?_; intro b) | (refine SL.W.alloc ?_; intro b) | (refine SL.W.buildSlice ?_; intro b) | (refine SL.W.append ?_; intro a cap) | refine SL.W.bytesToStr ?_ | refine SL.W.toIntC ?_ | (refine SL.W.makeSlice ?_; intro b) | refine SL.W.lookupOk ?_ | refine SL.W.lookup ?_ | (refine SL.W.makeMap ?_; intro b) | refine SL.W.mapUpdate ?_ | (refine SL.W.mapEntry ?_; intro stamp) | refine SL.W.entryStore ?_ | (refine SL.W.range ?_; intro it) | refine SL.W.delete ?_)) | (refine SL.TK.lp ?_; first | (refine SL.TK.block ?_; refine SL.TK.enter ?_)) | (refine SL.TK.is ?_; first | refine SL.TK.seq ?_ | refine SL.TK.region ?_ | refine SL.TK.regionD SL.mixed (by simp only [SL.falses] <;> rfl) ?_ | refine SL.TK.block ?_ | refine SL.TK.inBlock ?_ | refine SL.TK.skip ?_ | refine SL.TK.scope ?_ | refine SL.TK.inScope ?_ | refine SL.TK.label ?_ | (refine SL.TK.isExit ?_; refine SL.W.exit ?_) | refine SL.W.condT ?_ | refine SL.W.condF ?_) | (refine SL.TD.is ?_; first | (refine SL.W.dfin ?_; simp only [SL.aps]) | refine SL.W.dpass ?_ | refine SL.W.dpure ?_ | refine SL.W.dload ?_ | refine SL.W.dloadA ?_ | refine SL.W.dfrz ?_ | (refine SL.W.dthaw ?_; simp only [SL.aps])) | ((first | refine SL.W.guardP (fun h => ?_) (fun h => ?_) | refine SL.W.condP (fun h => ?_) (fun h => ?_) | refine SL.W.dguardP (fun h => ?_) (fun h => ?_)) <;> (fail_if_success (have : h = trivial := rfl)) <;> (fail_if_success (have : h = not_false := rfl)) <;> first | contradiction | (exfalso; omega) | (exfalso; revert h; simp; done) | skip) | ((first | refine SL.W.guardB (fun h => ?_) (fun h => ?_) | refine SL.W.dguardB (fun h => ?_) (fun h => ?_)) <;> (fail_if_success (have : h = (rfl : true = true) := rfl)) <;> (fail_if_success (have : h = (rfl : false = false) := rfl))) | refine SL.W.condB (fun h => ?_) (fun h => ?_) | (refine SL.TD.is ?_; first | refine SL.W.done ?_ | refine SL.W.dtwo ?_ ?_ | refine SL.W.dthree ?_ ?_ ?_))
  all_goals exact SL.TK.retD Tryz.func59 (SL.Res.one rfl (by rfl)) ⟨_, _, rfl, fun e => by have := hoa e; simp at this, rfl⟩ (EntD.cons (by first | ((repeat (first | exact SL.Pick.head | apply SL.Pick.tail)); done) | fail) (EntD.frm (by first | ((repeat (first | exact SL.Frm.nil | exact SL.Frm.refl | (apply SL.Frm.cons; repeat (first | exact SL.Pick.head | apply SL.Pick.tail)))); done) | fail) fresh_shut EntD.nil))
end SL
end
section
set_option linter.unusedVariables false
set_option linter.unusedSimpArgs false
set_option maxRecDepth 10000
namespace SL
open Go Go.Proofs Go.RowKit
section
variable {P : Program} {fid : Fm} {n : Nat} {post : Post} {k : List Item} {ρ : Env} {L r R : List HProp} {ls : List Bool} {ops : List Oper} {ty : TypeId} {pos : String} {af : Array Edge} {g : Option (Nat × Bool)}
theorem W.dfrzX (X : HProp) {i : Nat} (h : TD P fid n post ops ls (X :: R) k ρ r) (hi : firstLoad ls ops 0 = some i := by rfl) (hp : Pick L X r := by first | ((repeat (first | exact SL.Pick.head | apply SL.Pick.tail)); done) | fail) : TD P fid n post ops ls R k ρ L := TD.freeze hp h
theorem W.dloadX {X : HProp} {ls' : List Bool} {i d' t : Nat} {x : Operand} {q : Addr} {v : Value} {vs : List Value} (hX : RdA X q vs) (hv : vs[0]? = some v) (h : TD P fid n post ops ls' R k ((d', v) :: ρ) L) (hi : firstLoad ls ops 0 = some i := by rfl) (ho : nth ops i = some ⟨some d', .load t x, ty, pos, af, g⟩ := by rfl) (ht : TSc P t := by infer_instance)
    (hw : wants ops ρ g = some true := by rfl) (hd : Nat.blt d' n = true := by rfl) (hok : firstOk ops ls i d' ⟨some d', .load t x, ty, pos, af, g⟩ ops 0 = true := by rfl) (hcl : closedB ls ops 0 = true := by rfl)
    (hx : ev ρ x = some (.pointer (some q)) := by rfl) (hp : Pick R X r := by first | ((repeat (first | exact SL.Pick.head | apply SL.Pick.tail)); done) | fail) (hl : setB ls i = ls' := by simp only [SL.setB] <;> rfl) : TD P fid n post ops ls R k ρ L :=
  TD.load hi ho hw hd hok hcl hp (fun w0 F a w gr st => by
    have hc := hX _ _ _ _ _ st Pick.head 0 v hv
    have e : q.add 0 = q := by simp [Addr.add]
    rw [e] at hc
    simp [execOp, gr.eval hx, Instr.loadAt, Instr.sureAddr, loadVar, (ht.run w).1, hc]) hl h
end
def fmC : List Value := [.int .i32 127, .int .u8 0, .int .u64 7, .int .i32 2047, .int .u8 192, .int .u64 5, .int .i32 65535, .int .u8 224, .int .u64 4, .int .i32 1114111, .int .u8 240, .int .u64 3]
def FormsIn (X : HProp) : Prop := RdA X ⟨1, 0, none⟩ fmC
def fmM (i : Nat) : Int := if i = 0 then 127 else if i = 1 then 2047 else if i = 2 then 65535 else 1114111
def fmK (i : Nat) : Int := if i = 0 then 0 else if i = 1 then 192 else if i = 2 then 224 else 240
def fmB (i : Nat) : Int := if i = 0 then 7 else if i = 1 then 5 else if i = 2 then 4 else 3
theorem fm_cut {i : Nat} (h : i < 4) : Cut fmC (i * 3) 3 [.int .i32 (fmM i), .int .u8 (fmK i), .int .u64 (fmB i)] := by
  have : i = 0 ∨ i = 1 ∨ i = 2 ∨ i = 3 := by omega
  rcases this with rfl | rfl | rfl | rfl <;> exact ⟨rfl, fun j v hj => by
    have hl := (List.getElem?_eq_some_iff.1 hj).1
    simp only [List.length_cons, List.length_nil] at hl
    have : j = 0 ∨ j = 1 ∨ j = 2 := by omega
    rcases this with rfl | rfl | rfl <;> simpa [fmC, fmM, fmK, fmB] using hj⟩
theorem fmB_pos (i : Nat) : 0 ≤ fmB i := by unfold fmB; split <;> (try split) <;> (try split) <;> omega
def sizeF (c : Int) : Nat → Nat → Int
  | _, 0 => 0
  | i, f + 1 => if c ≤ fmM i then (i : Int) + 1 else sizeF c (i + 1) f
def sizeU (c : Int) : Int := if mayC c then sizeF c 0 4 else 0
attribute [local irreducible] SL.TK SL.TO SL.TD SL.PV SL.Pick SL.Frm SL.Ent SL.Sub SL.EvAll SL.seps SL.sep SL.Cut SL.PutAt SL.blk SL.EvP SL.Fill SL.Src SL.EntD SL.own SL.ex SL.fact SL.orig
theorem undForm : Tryz.prog.underlying 251 = some (.array 4 250) := by kernel_rfl
def szI (X : HProp) (c : Int) (ρ : Env) (L : List HProp) (m : Nat) : Prop := ∃ i : Nat, i ≤ 4 ∧ sizeU c = sizeF c i (4 - i) ∧ ρ = [(0, .int .i32 c), (8, .agg fmC.toArray), (9, .int .i64 i)] ∧ L = [X] ∧ m = 4 - i
theorem utfSize_spec {X : HProp} (hX : FormsIn X) (c : Int) : Spec Tryz.prog 155 [.int .i32 c] [X] (fun r L => r = .int .i64 (sizeU c) ∧ L = [X]) := by
  have hu := utfMay_spec c
  unfold FormsIn at hX
  cases hm : mayC c with
  | false =>
    rw [hm] at hu
    have e : sizeU c = 0 := by unfold sizeU; rw [hm]; rfl
    rw [e]
    refine SL.Spec.of_TK Go.Proofs.Tryz.func155 rfl rfl SL.call155 rfl ?_
    repeat' (first | (refine SL.TO.is ?_; first | (refine SL.W.quick ?_; first | refine SL.W.pass ?_ | refine SL.W.pv ?_ | refine SL.W.pv0 ?_) | (refine SL.TO.door (o := ⟨_, .call _, _, _, _, _⟩) ?_; first | (refine SL.TO.door (o := ⟨_, .call ⟨.value (.func 122), _, _⟩, _, _, _, _⟩) ?_; first | (refine SL.W.call (hu) ?_; rintro _ _ ⟨rfl, rfl⟩; try simp only [SL.aps]))) | refine SL.TO.nil ?_ | (refine SL.TO.nilD ?_; simp only [SL.setB]) | refine SL.W.pass ?_ | refine SL.W.pass0 ?_ | (refine SL.W.pure ?_; first | refine SL.W.pv ?_ | refine SL.W.pv0 ?_) | (refine SL.W.loud ?_; first | refine SL.W.load ?_ | refine SL.W.loadA ?_ | refine SL.W.store ?_ | refine SL.W.storeA ?_ | (refine SL.W.box ?_; intro b) | (refine SL.W.alloc ?_; intro b) | (refine SL.W.buildSlice ?_; intro b) | (refine SL.W.append ?_; intro a cap) | refine SL.W.bytesToStr ?_ | refine SL.W.toIntC ?_ | (refine SL.W.makeSlice ?_; intro b))) | (refine SL.TK.is ?_; first | refine SL.TK.seq ?_ | refine SL.TK.region ?_ | refine SL.TK.regionD SL.mixed (by simp only [SL.falses] <;> rfl) ?_ | refine SL.TK.block ?_ | refine SL.TK.inBlock ?_ | refine SL.TK.skip ?_ | refine SL.TK.scope ?_ | refine SL.TK.inScope ?_ | refine SL.TK.label ?_ | (refine SL.TK.isExit ?_; refine SL.W.exit ?_) | refine SL.W.condT ?_ | refine SL.W.condF ?_) | (refine SL.TD.is ?_; first | (refine SL.W.dfin ?_; simp only [SL.aps]) | refine SL.W.dpass ?_ | refine SL.W.dpure ?_ | refine SL.W.dload ?_ | refine SL.W.dloadA ?_ | refine SL.W.dfrz ?_ | (refine SL.W.dthaw ?_; simp only [SL.aps])) | ((first | refine SL.W.guardP (fun h => ?_) (fun h => ?_) | refine SL.W.condP (fun h => ?_) (fun h => ?_) | refine SL.W.dguardP (fun h => ?_) (fun h => ?_)) <;> (fail_if_success (have : h = trivial := rfl)) <;> (fail_if_success (have : h = not_false := rfl)) <;> first | contradiction | (exfalso; omega) | (exfalso; revert h; simp; done) | skip) | ((first | refine SL.W.guardB (fun h => ?_) (fun h => ?_) | refine SL.W.dguardB (fun h => ?_) (fun h => ?_)) <;> (fail_if_success (have : h = (rfl : true = true) := rfl)) <;> (fail_if_success (have : h = (rfl : false = false) := rfl))) | refine SL.W.condB (fun h => ?_) (fun h => ?_) | (refine SL.TD.is ?_; first | refine SL.W.done ?_ | refine SL.W.dtwo ?_ ?_ | refine SL.W.dthree ?_ ?_ ?_))
    exact SL.TK.retD Tryz.func155 (SL.Res.one rfl (by rfl)) ⟨rfl, rfl⟩ (EntD.cons (by first | ((repeat (first | exact SL.Pick.head | apply SL.Pick.tail)); done) | fail) EntD.nil)
  | true =>
    rw [hm] at hu
    have e0 : sizeU c = sizeF c 0 (4 - 0) := by unfold sizeU; rw [hm]; rfl
    refine SL.Spec.of_TK Go.Proofs.Tryz.func155 rfl rfl SL.call155 rfl ?_
    repeat' (first | (refine SL.TO.is ?_; first | (refine SL.W.quick ?_; first | refine SL.W.pass ?_ | refine SL.W.pv ?_ | refine SL.W.pv0 ?_) | (refine SL.TO.door (o := ⟨_, .call _, _, _, _, _⟩) ?_; first | (refine SL.TO.door (o := ⟨_, .call ⟨.value (.func 122), _, _⟩, _, _, _, _⟩) ?_; first | (refine SL.W.call (hu) ?_; rintro _ _ ⟨rfl, rfl⟩; try simp only [SL.aps]))) | (refine SL.TO.door (o := ⟨_, .load _ _, _, _, _, _⟩) ?_; first | refine SL.W.loadXA hX rfl ?_) | refine SL.TO.nil ?_ | (refine SL.TO.nilD ?_; simp only [SL.setB]) | refine SL.W.pass ?_ | refine SL.W.pass0 ?_ | (refine SL.W.pure ?_; first | refine SL.W.pv ?_ | refine SL.W.pv0 ?_) | (refine SL.W.loud ?_; first | refine SL.W.load ?_ | refine SL.W.loadA ?_ | refine SL.W.store ?_ | refine SL.W.storeA ?_ | (refine SL.W.box ?_; intro b) | (refine SL.W.alloc ?_; intro b) | (refine SL.W.buildSlice ?_; intro b) | (refine SL.W.append ?_; intro a cap) | refine SL.W.bytesToStr ?_ | refine SL.W.toIntC ?_ | (refine SL.W.makeSlice ?_; intro b))) | (refine SL.TK.lp ?_; first | (refine SL.TK.block ?_; refine SL.TK.loopD (szI X c) ?_ ⟨0, Nat.zero_le _, e0, rfl, rfl, rfl⟩ (by first | ((repeat (first | exact SL.Sub.nil | refine SL.Sub.cons (by rfl) (by first | rfl | exact SL.int_eq (by omega)) ?_)); done) | fail) (EntD.cons (by first | ((repeat (first | exact SL.Pick.head | apply SL.Pick.tail)); done) | fail) EntD.nil))) | (refine SL.TK.is ?_; first | refine SL.TK.seq ?_ | refine SL.TK.region ?_ | refine SL.TK.regionD SL.mixed (by simp only [SL.falses] <;> rfl) ?_ | refine SL.TK.block ?_ | refine SL.TK.inBlock ?_ | refine SL.TK.skip ?_ | refine SL.TK.scope ?_ | refine SL.TK.inScope ?_ | refine SL.TK.label ?_ | (refine SL.TK.isExit ?_; refine SL.W.exit ?_) | refine SL.W.condT ?_ | refine SL.W.condF ?_) | (refine SL.TD.is ?_; first | (refine SL.W.dfin ?_; simp only [SL.aps]) | refine SL.W.dpass ?_ | refine SL.W.dpure ?_ | refine SL.W.dload ?_ | refine SL.W.dloadA ?_ | refine SL.W.dfrz ?_ | (refine SL.W.dthaw ?_; simp only [SL.aps])) | ((first | refine SL.W.guardP (fun h => ?_) (fun h => ?_) | refine SL.W.condP (fun h => ?_) (fun h => ?_) | refine SL.W.dguardP (fun h => ?_) (fun h => ?_)) <;> (fail_if_success (have : h = trivial := rfl)) <;> (fail_if_success (have : h = not_false := rfl)) <;> first | contradiction | (exfalso; omega) | (exfalso; revert h; simp; done) | skip) | ((first | refine SL.W.guardB (fun h => ?_) (fun h => ?_) | refine SL.W.dguardB (fun h => ?_) (fun h => ?_)) <;> (fail_if_success (have : h = (rfl : true = true) := rfl)) <;> (fail_if_success (have : h = (rfl : false = false) := rfl))) | refine SL.W.condB (fun h => ?_) (fun h => ?_) | (refine SL.TD.is ?_; first | refine SL.W.done ?_ | refine SL.W.dtwo ?_ ?_ | refine SL.W.dthree ?_ ?_ ?_))
    clear hu hX e0
    rintro ρ L m ⟨i, hi, he, rfl, rfl, rfl⟩ ih
    have hE := Lib.hid he
    clear he
    by_cases hlt : i < 4
    · have hcut := fm_cut hlt
      have hstep : sizeF c i (4 - i) = if c ≤ fmM i then (i : Int) + 1 else sizeF c (i + 1) (4 - (i + 1)) := by
        obtain ⟨f, hf⟩ : ∃ f, 4 - i = f + 1 := ⟨3 - i, by omega⟩
        rw [hf, show 4 - (i + 1) = f from by omega]; rfl
      obtain ⟨mo, hmo⟩ : ∃ x, x = fmM i := ⟨_, rfl⟩
      obtain ⟨mk, hmk⟩ : ∃ x, x = fmK i := ⟨_, rfl⟩
      obtain ⟨mb, hmb⟩ : ∃ x, x = fmB i := ⟨_, rfl⟩
      rw [← hmo] at hstep
      rw [← hmo, ← hmk, ← hmb] at hcut
      have hS := Lib.hid hstep
      obtain ⟨fc, hfc⟩ : ∃ x, x = fmC := ⟨_, rfl⟩
      rw [← hfc] at hcut ⊢
      have hfH := Lib.hid hfc
      clear hstep hmo hmk hmb hfc
      repeat' (first | (refine SL.TO.is ?_; first | (refine SL.TO.door (o := ⟨_, .index _ _ _, _, _, _, _⟩) ?_; refine SL.W.pvn (PV.indexAg undForm (by rfl) (by rfl) (i' := i) rfl hlt hcut) ?_) | (refine SL.W.quick ?_; first | refine SL.W.pass ?_ | refine SL.W.pv ?_ | refine SL.W.pv0 ?_) | refine SL.TO.nil ?_ | (refine SL.TO.nilD ?_; simp only [SL.setB]) | refine SL.W.pass ?_ | refine SL.W.pass0 ?_ | (refine SL.W.pure ?_; first | refine SL.W.pv ?_ | refine SL.W.pv0 ?_) | (refine SL.W.loud ?_; first | refine SL.W.load ?_ | refine SL.W.loadA ?_ | refine SL.W.store ?_ | refine SL.W.storeA ?_ | (refine SL.W.box ?_; intro b) | (refine SL.W.alloc ?_; intro b) | (refine SL.W.buildSlice ?_; intro b) | (refine SL.W.append ?_; intro a cap) | refine SL.W.bytesToStr ?_ | refine SL.W.toIntC ?_ | (refine SL.W.makeSlice ?_; intro b))) | (refine SL.TK.is ?_; first | refine SL.TK.seq ?_ | refine SL.TK.region ?_ | refine SL.TK.regionD SL.mixed (by simp only [SL.falses] <;> rfl) ?_ | refine SL.TK.block ?_ | refine SL.TK.inBlock ?_ | refine SL.TK.skip ?_ | refine SL.TK.scope ?_ | refine SL.TK.inScope ?_ | refine SL.TK.label ?_ | (refine SL.TK.isExit ?_; refine SL.W.exit ?_) | refine SL.W.condT ?_ | refine SL.W.condF ?_) | (refine SL.TD.is ?_; first | (refine SL.W.dfin ?_; simp only [SL.aps]) | refine SL.W.dpass ?_ | refine SL.W.dpure ?_ | refine SL.W.dload ?_ | refine SL.W.dloadA ?_ | refine SL.W.dfrz ?_ | (refine SL.W.dthaw ?_; simp only [SL.aps])) | ((first | refine SL.W.guardP (fun h => ?_) (fun h => ?_) | refine SL.W.condP (fun h => ?_) (fun h => ?_) | refine SL.W.dguardP (fun h => ?_) (fun h => ?_)) <;> (fail_if_success (have : h = trivial := rfl)) <;> (fail_if_success (have : h = not_false := rfl)) <;> first | contradiction | (exfalso; omega) | (exfalso; revert h; simp; done) | skip) | ((first | refine SL.W.guardB (fun h => ?_) (fun h => ?_) | refine SL.W.dguardB (fun h => ?_) (fun h => ?_)) <;> (fail_if_success (have : h = (rfl : true = true) := rfl)) <;> (fail_if_success (have : h = (rfl : false = false) := rfl))) | refine SL.W.condB (fun h => ?_) (fun h => ?_) | (refine SL.TD.is ?_; first | refine SL.W.done ?_ | refine SL.W.dtwo ?_ ?_ | refine SL.W.dthree ?_ ?_ ?_))
      · exact SL.TK.retD Tryz.func155 (SL.Res.one rfl (by rfl)) ⟨by rw [hE.out, hS.out, if_pos (by assumption)], rfl⟩ (EntD.cons (by first | ((repeat (first | exact SL.Pick.head | apply SL.Pick.tail)); done) | fail) EntD.nil)
      · rw [hfH.out]
        refine SL.TK.againD ih ⟨i + 1, by omega, by rw [hE.out, hS.out, if_neg (by assumption)], rfl, rfl, rfl⟩ (by first | ((repeat (first | exact SL.Sub.nil | refine SL.Sub.cons (by rfl) (by first | rfl | exact SL.int_eq (by omega)) ?_)); done) | fail) ?_ (by omega)
        exact EntD.cons (by first | ((repeat (first | exact SL.Pick.head | apply SL.Pick.tail)); done) | fail) EntD.nil
    · have hil : i = 4 := by omega
      subst hil
      clear ih
      have e : sizeU c = 0 := hE.out
      rw [e]
      repeat' (first | (refine SL.TO.is ?_; first | (refine SL.W.quick ?_; first | refine SL.W.pass ?_ | refine SL.W.pv ?_ | refine SL.W.pv0 ?_) | refine SL.TO.nil ?_ | (refine SL.TO.nilD ?_; simp only [SL.setB]) | refine SL.W.pass ?_ | refine SL.W.pass0 ?_ | (refine SL.W.pure ?_; first | refine SL.W.pv ?_ | refine SL.W.pv0 ?_) | (refine SL.W.loud ?_; first | refine SL.W.load ?_ | refine SL.W.loadA ?_ | refine SL.W.store ?_ | refine SL.W.storeA ?_ | (refine SL.W.box ?_; intro b) | (refine SL.W.alloc ?_; intro b) | (refine SL.W.buildSlice ?_; intro b) | (refine SL.W.append ?_; intro a cap) | refine SL.W.bytesToStr ?_ | refine SL.W.toIntC ?_ | (refine SL.W.makeSlice ?_; intro b))) | (refine SL.TK.is ?_; first | refine SL.TK.seq ?_ | refine SL.TK.region ?_ | refine SL.TK.regionD SL.mixed (by simp only [SL.falses] <;> rfl) ?_ | refine SL.TK.block ?_ | refine SL.TK.inBlock ?_ | refine SL.TK.skip ?_ | refine SL.TK.scope ?_ | refine SL.TK.inScope ?_ | refine SL.TK.label ?_ | (refine SL.TK.isExit ?_; refine SL.W.exit ?_) | refine SL.W.condT ?_ | refine SL.W.condF ?_) | (refine SL.TD.is ?_; first | (refine SL.W.dfin ?_; simp only [SL.aps]) | refine SL.W.dpass ?_ | refine SL.W.dpure ?_ | refine SL.W.dload ?_ | refine SL.W.dloadA ?_ | refine SL.W.dfrz ?_ | (refine SL.W.dthaw ?_; simp only [SL.aps])) | ((first | refine SL.W.guardP (fun h => ?_) (fun h => ?_) | refine SL.W.condP (fun h => ?_) (fun h => ?_) | refine SL.W.dguardP (fun h => ?_) (fun h => ?_)) <;> (fail_if_success (have : h = trivial := rfl)) <;> (fail_if_success (have : h = not_false := rfl)) <;> first | contradiction | (exfalso; omega) | (exfalso; revert h; simp; done) | skip) | ((first | refine SL.W.guardB (fun h => ?_) (fun h => ?_) | refine SL.W.dguardB (fun h => ?_) (fun h => ?_)) <;> (fail_if_success (have : h = (rfl : true = true) := rfl)) <;> (fail_if_success (have : h = (rfl : false = false) := rfl))) | refine SL.W.condB (fun h => ?_) (fun h => ?_) | (refine SL.TD.is ?_; first | refine SL.W.done ?_ | refine SL.W.dtwo ?_ ?_ | refine SL.W.dthree ?_ ?_ ?_))
      exact SL.TK.retD Tryz.func155 (SL.Res.one rfl (by rfl)) ⟨rfl, rfl⟩ (EntD.cons (by first | ((repeat (first | exact SL.Pick.head | apply SL.Pick.tail)); done) | fail) EntD.nil)
end SL
end
section
set_option linter.unusedVariables false
set_option linter.unusedSimpArgs false
set_option maxRecDepth 10000
namespace SL
open Go Go.Proofs Go.RowKit
def stepU (s : Bool × Int) (x : Int) : Bool × Int := (if s.1 then decide (shrI .u8 x 6 = 2) else false, orI .i32 (shlI .i32 s.2 6) (IntKind.i32.wrap (andI .u8 x 63)))
def c0U (v0 : Int) (i : Nat) : Int := IntKind.i32.wrap (andI .u8 v0 (IntKind.u8.wrap (shlI .u8 1 (fmB i) - 1)))
def foldU (v : List Int) (i : Nat) : Bool × Int := ((v.drop 1).take i).foldl stepU (true, c0U (v.headD 0) i)
def firstF (v : List Int) : Nat → Nat → Int × Int
  | _, 0 => (0, 0)
  | i, f + 1 => if shrI .u8 (v.headD 0) (fmB i) = shrI .u8 (fmK i) (fmB i) ∧ i + 1 ≤ v.length then (if (foldU v i).1 = true ∧ sizeU (foldU v i).2 = (i : Int) + 1 then ((foldU v i).2, (i : Int) + 1) else firstF v (i + 1) f) else firstF v (i + 1) f
def ints (bs : List UInt8) : List Int := bs.map fun b => (b.toNat : Int)
def firstU (bs : List UInt8) : Int × Int := if bs = [] then (0, 0) else firstF (ints bs) 0 4
theorem firstF_le (v : List Int) : ∀ f i, 0 ≤ (firstF v i f).2 ∧ (firstF v i f).2 ≤ v.length := by
  intro f
  induction f with
  | zero => intro i; simp [firstF]
  | succ f ih =>
    intro i
    simp only [firstF]
    split
    · split
      · simp; omega
      · exact ih _
    · exact ih _
theorem firstU_le (bs : List UInt8) : 0 ≤ (firstU bs).2 ∧ (firstU bs).2 ≤ bs.length := by
  unfold firstU
  split
  · simp
  · have := firstF_le (ints bs) 4 0
    simpa [ints] using this
attribute [local irreducible] SL.TK SL.TO SL.TD SL.PV SL.Pick SL.Frm SL.Ent SL.Sub SL.EvAll SL.seps SL.sep SL.Cut SL.PutAt SL.blk SL.EvP SL.Fill SL.Src SL.EntD SL.own SL.ex SL.fact SL.orig
theorem first1_spec (x : Int) (ok : Bool) (c : Int) (b8 b7 : Nat) : Spec Tryz.prog 154 [.int .u8 x, .pointer (some ⟨b8, 0, none⟩), .pointer (some ⟨b7, 0, none⟩)] [SL.blk b8 4 [.bool ok], SL.blk b7 161 [.int .i32 c]]
    (fun r L => r = .tuple #[] ∧ L = [SL.blk b8 4 [.bool (stepU (ok, c) x).1], SL.blk b7 161 [.int .i32 (stepU (ok, c) x).2]]) := by
  cases ok
  · refine SL.Spec.of_TK Go.Proofs.Tryz.func154 rfl rfl SL.call154 rfl ?_
    repeat' (first | (refine SL.TO.is ?_; first | (refine SL.W.quick ?_; first | refine SL.W.pass ?_ | refine SL.W.pv ?_ | refine SL.W.pv0 ?_) | refine SL.TO.nil ?_ | (refine SL.TO.nilD ?_; simp only [SL.setB]) | refine SL.W.pass ?_ | refine SL.W.pass0 ?_ | (refine SL.W.pure ?_; first | refine SL.W.pv ?_ | refine SL.W.pv0 ?_) | (refine SL.W.loud ?_; first | refine SL.W.load ?_ | refine SL.W.loadA ?_ | refine SL.W.store ?_ | refine SL.W.storeA ?_ | (refine SL.W.box ?_; intro b) | (refine SL.W.alloc ?_; intro b) | (refine SL.W.buildSlice ?_; intro b) | (refine SL.W.append ?_; intro a cap) | refine SL.W.bytesToStr ?_ | refine SL.W.toIntC ?_ | (refine SL.W.makeSlice ?_; intro b))) | (refine SL.TK.is ?_; first | refine SL.TK.seq ?_ | refine SL.TK.region ?_ | refine SL.TK.regionD SL.mixed (by simp only [SL.falses] <;> rfl) ?_ | refine SL.TK.block ?_ | refine SL.TK.inBlock ?_ | refine SL.TK.skip ?_ | refine SL.TK.scope ?_ | refine SL.TK.inScope ?_ | refine SL.TK.label ?_ | (refine SL.TK.isExit ?_; refine SL.W.exit ?_) | refine SL.W.condT ?_ | refine SL.W.condF ?_) | (refine SL.TD.is ?_; first | (refine SL.W.dfin ?_; simp only [SL.aps]) | refine SL.W.dpass ?_ | refine SL.W.dpure ?_ | refine SL.W.dload ?_ | refine SL.W.dloadA ?_ | refine SL.W.dfrz ?_ | (refine SL.W.dthaw ?_; simp only [SL.aps])) | ((first | refine SL.W.guardP (fun h => ?_) (fun h => ?_) | refine SL.W.condP (fun h => ?_) (fun h => ?_) | refine SL.W.dguardP (fun h => ?_) (fun h => ?_)) <;> (fail_if_success (have : h = trivial := rfl)) <;> (fail_if_success (have : h = not_false := rfl)) <;> first | contradiction | (exfalso; omega) | (exfalso; revert h; simp; done) | skip) | ((first | refine SL.W.guardB (fun h => ?_) (fun h => ?_) | refine SL.W.dguardB (fun h => ?_) (fun h => ?_)) <;> (fail_if_success (have : h = (rfl : true = true) := rfl)) <;> (fail_if_success (have : h = (rfl : false = false) := rfl))) | refine SL.W.condB (fun h => ?_) (fun h => ?_) | (refine SL.TD.is ?_; first | refine SL.W.done ?_ | refine SL.W.dtwo ?_ ?_ | refine SL.W.dthree ?_ ?_ ?_))
    exact SL.TK.finD Tryz.func154 (SL.Res.none rfl) ⟨rfl, rfl⟩ (EntD.cons (by first | ((repeat (first | exact SL.Pick.head | apply SL.Pick.tail)); done) | fail) (EntD.cons (by first | ((repeat (first | exact SL.Pick.head | apply SL.Pick.tail)); done) | fail) EntD.nil))
  · refine SL.Spec.of_TK Go.Proofs.Tryz.func154 rfl rfl SL.call154 rfl ?_
    repeat' (first | (refine SL.TO.is ?_; first | (refine SL.W.quick ?_; first | refine SL.W.pass ?_ | refine SL.W.pv ?_ | refine SL.W.pv0 ?_) | refine SL.TO.nil ?_ | (refine SL.TO.nilD ?_; simp only [SL.setB]) | refine SL.W.pass ?_ | refine SL.W.pass0 ?_ | (refine SL.W.pure ?_; first | refine SL.W.pv ?_ | refine SL.W.pv0 ?_) | (refine SL.W.loud ?_; first | refine SL.W.load ?_ | refine SL.W.loadA ?_ | refine SL.W.store ?_ | refine SL.W.storeA ?_ | (refine SL.W.box ?_; intro b) | (refine SL.W.alloc ?_; intro b) | (refine SL.W.buildSlice ?_; intro b) | (refine SL.W.append ?_; intro a cap) | refine SL.W.bytesToStr ?_ | refine SL.W.toIntC ?_ | (refine SL.W.makeSlice ?_; intro b))) | (refine SL.TK.is ?_; first | refine SL.TK.seq ?_ | refine SL.TK.region ?_ | refine SL.TK.regionD SL.mixed (by simp only [SL.falses] <;> rfl) ?_ | refine SL.TK.block ?_ | refine SL.TK.inBlock ?_ | refine SL.TK.skip ?_ | refine SL.TK.scope ?_ | refine SL.TK.inScope ?_ | refine SL.TK.label ?_ | (refine SL.TK.isExit ?_; refine SL.W.exit ?_) | refine SL.W.condT ?_ | refine SL.W.condF ?_) | (refine SL.TD.is ?_; first | (refine SL.W.dfin ?_; simp only [SL.aps]) | refine SL.W.dpass ?_ | refine SL.W.dpure ?_ | refine SL.W.dload ?_ | refine SL.W.dloadA ?_ | refine SL.W.dfrz ?_ | (refine SL.W.dthaw ?_; simp only [SL.aps])) | ((first | refine SL.W.guardP (fun h => ?_) (fun h => ?_) | refine SL.W.condP (fun h => ?_) (fun h => ?_) | refine SL.W.dguardP (fun h => ?_) (fun h => ?_)) <;> (fail_if_success (have : h = trivial := rfl)) <;> (fail_if_success (have : h = not_false := rfl)) <;> first | contradiction | (exfalso; omega) | (exfalso; revert h; simp; done) | skip) | ((first | refine SL.W.guardB (fun h => ?_) (fun h => ?_) | refine SL.W.dguardB (fun h => ?_) (fun h => ?_)) <;> (fail_if_success (have : h = (rfl : true = true) := rfl)) <;> (fail_if_success (have : h = (rfl : false = false) := rfl))) | refine SL.W.condB (fun h => ?_) (fun h => ?_) | (refine SL.TD.is ?_; first | refine SL.W.done ?_ | refine SL.W.dtwo ?_ ?_ | refine SL.W.dthree ?_ ?_ ?_))
    all_goals exact SL.TK.finD Tryz.func154 (SL.Res.none rfl) ⟨rfl, rfl⟩ (EntD.cons (by first | ((repeat (first | exact SL.Pick.head | apply SL.Pick.tail)); done) | fail) (EntD.cons (by first | ((repeat (first | exact SL.Pick.head | apply SL.Pick.tail)); done) | fail) EntD.nil))
def fiI (X Y : HProp) (q : Addr) (cap : Nat) (bs : List UInt8) (ρ : Env) (L : List HProp) (m : Nat) : Prop := ∃ i : Nat, i ≤ 4 ∧ firstF (ints bs) 0 4 = firstF (ints bs) i (4 - i) ∧ ρ = [(0, .slice (some q) bs.length cap), (15, .agg fmC.toArray), (16, .int .i64 i)] ∧ L = [X, Y] ∧ m = 4 - i
def fjI (X Y : HProp) (q : Addr) (cap len i b7 b8 : Nat) (s52 : Value) (tl : List Int) (c0 : Int) (fc : List Value) (ρ : Env) (L : List HProp) (m : Nat) : Prop := ∃ k : Nat, k ≤ i ∧
  ρ = [(0, .slice (some q) len cap), (6, .int .i64 ((i : Int) + 1)), (7, .pointer (some ⟨b7, 0, none⟩)), (8, .pointer (some ⟨b8, 0, none⟩)), (9, .func (.func 154) #[] #[.pointer (some ⟨b8, 0, none⟩), .pointer (some ⟨b7, 0, none⟩)]), (15, .agg fc.toArray), (16, .int .i64 i), (52, s52), (53, .int .i64 i), (54, .int .i64 k)] ∧
  L = [X, Y, SL.blk b8 4 [.bool ((tl.take k).foldl stepU (true, c0)).1], SL.blk b7 161 [.int .i32 ((tl.take k).foldl stepU (true, c0)).2]] ∧ m = i - k
set_option maxHeartbeats 1000000 in
theorem utfFirst_spec {X Y : HProp} (hY : FormsIn Y) (q : Addr) (cap : Nat) (bs : List UInt8) (hX : RdB X (some q) bs) (hc : bs.length ≤ cap) (hl : bs.length ≤ 1000000000) (h0 : bs ≠ []) :
    Spec Tryz.prog 130 [.slice (some q) bs.length cap] [X, Y] (fun r L => r = .tuple #[.int .i32 (firstU bs).1, .int .i64 (firstU bs).2] ∧ L = [X, Y]) := by
  have e0 : firstU bs = firstF (ints bs) 0 4 := by unfold firstU; rw [if_neg h0]
  have hpos : 0 < bs.length := List.length_pos_iff.2 h0
  have hY' := hY
  unfold FormsIn at hY'
  rw [e0]
  refine SL.Spec.of_TK Go.Proofs.Tryz.func130 rfl rfl SL.call130 rfl ?_
  repeat' (first | (refine SL.TO.is ?_; first | (refine SL.W.quick ?_; first | refine SL.W.pass ?_ | refine SL.W.pv ?_ | refine SL.W.pv0 ?_) | (refine SL.TO.door (o := ⟨_, .load _ _, _, _, _, _⟩) ?_; first | refine SL.W.loadXA hY' rfl ?_) | refine SL.TO.nil ?_ | (refine SL.TO.nilD ?_; simp only [SL.setB]) | refine SL.W.pass ?_ | refine SL.W.pass0 ?_ | (refine SL.W.pure ?_; first | refine SL.W.pv ?_ | refine SL.W.pv0 ?_) | (refine SL.W.loud ?_; first | refine SL.W.load ?_ | refine SL.W.loadA ?_ | refine SL.W.store ?_ | refine SL.W.storeA ?_ | (refine SL.W.box ?_; intro b) | (refine SL.W.alloc ?_; intro b) | (refine SL.W.buildSlice ?_; intro b) | (refine SL.W.append ?_; intro a cap) | refine SL.W.bytesToStr ?_ | refine SL.W.toIntC ?_ | (refine SL.W.makeSlice ?_; intro b))) | (refine SL.TK.lp ?_; first | (refine SL.TK.block ?_; refine SL.TK.loopD (fiI X Y q cap bs) ?_ ⟨0, Nat.zero_le _, rfl, rfl, rfl, rfl⟩ (by first | ((repeat (first | exact SL.Sub.nil | refine SL.Sub.cons (by rfl) (by first | rfl | exact SL.int_eq (by omega)) ?_)); done) | fail) (EntD.cons (by first | ((repeat (first | exact SL.Pick.head | apply SL.Pick.tail)); done) | fail) (EntD.cons (by first | ((repeat (first | exact SL.Pick.head | apply SL.Pick.tail)); done) | fail) EntD.nil)))) | (refine SL.TK.is ?_; first | refine SL.TK.seq ?_ | refine SL.TK.region ?_ | refine SL.TK.regionD SL.mixed (by simp only [SL.falses] <;> rfl) ?_ | refine SL.TK.block ?_ | refine SL.TK.inBlock ?_ | refine SL.TK.skip ?_ | refine SL.TK.scope ?_ | refine SL.TK.inScope ?_ | refine SL.TK.label ?_ | (refine SL.TK.isExit ?_; refine SL.W.exit ?_) | refine SL.W.condT ?_ | refine SL.W.condF ?_) | (refine SL.TD.is ?_; first | (refine SL.W.dfin ?_; simp only [SL.aps]) | refine SL.W.dpass ?_ | refine SL.W.dpure ?_ | refine SL.W.dload ?_ | refine SL.W.dloadA ?_ | refine SL.W.dfrz ?_ | (refine SL.W.dthaw ?_; simp only [SL.aps])) | ((first | refine SL.W.guardP (fun h => ?_) (fun h => ?_) | refine SL.W.condP (fun h => ?_) (fun h => ?_) | refine SL.W.dguardP (fun h => ?_) (fun h => ?_)) <;> (fail_if_success (have : h = trivial := rfl)) <;> (fail_if_success (have : h = not_false := rfl)) <;> first | contradiction | (exfalso; omega) | (exfalso; revert h; simp; done) | skip) | ((first | refine SL.W.guardB (fun h => ?_) (fun h => ?_) | refine SL.W.dguardB (fun h => ?_) (fun h => ?_)) <;> (fail_if_success (have : h = (rfl : true = true) := rfl)) <;> (fail_if_success (have : h = (rfl : false = false) := rfl))) | refine SL.W.condB (fun h => ?_) (fun h => ?_) | (refine SL.TD.is ?_; first | refine SL.W.done ?_ | refine SL.W.dtwo ?_ ?_ | refine SL.W.dthree ?_ ?_ ?_))
  clear hY' e0 h0
  rintro ρ L m ⟨i, hi, he, rfl, rfl, rfl⟩ ih
  have hE := Lib.hid he
  clear he
  by_cases hlt : i < 4
  · have hcut := fm_cut hlt
    have hb0 := hX.byte hpos
    have hv0 : (ints bs).headD 0 = (bs[0].toNat : Int) := by
      cases bs with
      | nil => simp at hpos
      | cons b r => rfl
    have hstep : firstF (ints bs) i (4 - i) = if shrI .u8 ((ints bs).headD 0) (fmB i) = shrI .u8 (fmK i) (fmB i) ∧ i + 1 ≤ (ints bs).length then (if (foldU (ints bs) i).1 = true ∧ sizeU (foldU (ints bs) i).2 = (i : Int) + 1 then ((foldU (ints bs) i).2, (i : Int) + 1) else firstF (ints bs) (i + 1) (4 - (i + 1))) else firstF (ints bs) (i + 1) (4 - (i + 1)) := by
      obtain ⟨f, hf⟩ : ∃ f, 4 - i = f + 1 := ⟨3 - i, by omega⟩
      rw [hf, show 4 - (i + 1) = f from by omega]; rfl
    have hfo : foldU (ints bs) i = (((ints bs).drop 1).take i).foldl stepU (true, c0U ((ints bs).headD 0) i) := rfl
    have htlk : ∀ k, k < i → i + 1 ≤ bs.length → ∃ h : k + 1 < bs.length, (((ints bs).drop 1).take i).take (k + 1) = (((ints bs).drop 1).take i).take k ++ [(bs[k + 1].toNat : Int)] := fun k hk hle => by
      refine ⟨by omega, ?_⟩
      rw [List.take_add_one]
      congr 1
      rw [List.getElem?_take_of_lt hk, List.getElem?_drop]
      simp [ints, Nat.add_comm 1 k, List.getElem?_eq_getElem (show k + 1 < bs.length by omega)]
    have htll : i + 1 ≤ bs.length → (((ints bs).drop 1).take i).length = i := fun h => by simp [ints]; omega
    have hil : (ints bs).length = bs.length := by simp [ints]
    rw [hv0, hil] at hstep
    rw [hv0] at hfo
    unfold c0U at hfo
    obtain ⟨tl, htl⟩ : ∃ x, x = ((ints bs).drop 1).take i := ⟨_, rfl⟩
    rw [← htl] at hfo htlk htll
    obtain ⟨v0, hv⟩ : ∃ x : Int, x = (bs[0].toNat : Int) := ⟨_, rfl⟩
    have hb1 : RdA X (q.add (0 * 1)) [.int .u8 v0] := by rw [hv]; exact hb0
    rw [← hv] at hstep hfo
    obtain ⟨mo, hmo⟩ : ∃ x, x = fmM i := ⟨_, rfl⟩
    obtain ⟨mk, hmk⟩ : ∃ x, x = fmK i := ⟨_, rfl⟩
    have hmb0 := fmB_pos i
    obtain ⟨mb, hmb⟩ : ∃ x, x = fmB i := ⟨_, rfl⟩
    rw [← hmk, ← hmb] at hstep
    rw [← hmb] at hfo hmb0
    rw [← hmo, ← hmk, ← hmb] at hcut
    have hS := Lib.hid (And.intro hstep hfo)
    have hT := Lib.hid htlk
    have hTl := Lib.hid htll
    obtain ⟨fc, hfc⟩ : ∃ x, x = fmC := ⟨_, rfl⟩
    rw [← hfc] at hcut ⊢
    have hfH := Lib.hid hfc
    have hbyte := Lib.hid fun (j : Nat) (hj : j < bs.length) => hX.byte hj
    have hsz := Lib.hid fun (c : Int) => utfSize_spec hY c
    clear hstep hfo htlk htll hmo hmk hmb hfc hX hb0 hv0 hil htl hv hY
    repeat' (first | (refine SL.TO.is ?_; first | (refine SL.TO.door (o := ⟨_, .index _ _ _, _, _, _, _⟩) ?_; refine SL.W.pvn (PV.indexAg undForm (by rfl) (by rfl) (i' := i) rfl hlt hcut) ?_) | (refine SL.W.quick ?_; first | refine SL.W.pass ?_ | refine SL.W.pv ?_ | refine SL.W.pv0 ?_) | (refine SL.TO.door (o := ⟨_, .slice _ _ _ _ _, _, _, _, _⟩) ?_; first | refine SL.W.pvn (SL.PV.slice (lo := 1) (hi := i + 1) (by rfl) (by rfl) (by rfl) rfl (by omega) (by omega) (by omega)) ?_) | refine SL.TO.nil ?_ | (refine SL.TO.nilD ?_; simp only [SL.setB]) | refine SL.W.pass ?_ | refine SL.W.pass0 ?_ | (refine SL.W.pure ?_; first | refine SL.W.pv ?_ | refine SL.W.pv0 ?_) | (refine SL.W.loud ?_; first | refine SL.W.load ?_ | refine SL.W.loadA ?_ | refine SL.W.store ?_ | refine SL.W.storeA ?_ | (refine SL.W.box ?_; intro b) | (refine SL.W.alloc ?_; intro b) | (refine SL.W.buildSlice ?_; intro b) | (refine SL.W.append ?_; intro a cap) | refine SL.W.bytesToStr ?_ | refine SL.W.toIntC ?_ | (refine SL.W.makeSlice ?_; intro b))) | (refine SL.TK.lp ?_; first | (refine SL.TK.block ?_; refine SL.TK.loopD (fjI X Y q cap bs.length i _ _ _ tl (IntKind.i32.wrap (andI .u8 v0 (IntKind.u8.wrap (shlI .u8 1 mb - 1)))) fc) ?_ ⟨0, Nat.zero_le _, rfl, rfl, rfl⟩ (by first | ((repeat (first | exact SL.Sub.nil | refine SL.Sub.cons (by rfl) (by first | rfl | exact SL.int_eq (by omega)) ?_)); done) | fail) (EntD.cons (by first | ((repeat (first | exact SL.Pick.head | apply SL.Pick.tail)); done) | fail) (EntD.cons (by first | ((repeat (first | exact SL.Pick.head | apply SL.Pick.tail)); done) | fail) (EntD.cons (by first | ((repeat (first | exact SL.Pick.head | apply SL.Pick.tail)); done) | fail) (EntD.cons (by first | ((repeat (first | exact SL.Pick.head | apply SL.Pick.tail)); done) | fail) EntD.nil)))); refine Stop.out ?_)) | (refine SL.TK.is ?_; first | refine SL.TK.seq ?_ | refine SL.TK.region ?_ | refine SL.TK.regionD SL.mixed (by simp only [SL.falses] <;> rfl) ?_ | refine SL.TK.block ?_ | refine SL.TK.inBlock ?_ | refine SL.TK.skip ?_ | refine SL.TK.scope ?_ | refine SL.TK.inScope ?_ | refine SL.TK.label ?_ | (refine SL.TK.isExit ?_; refine SL.W.exit ?_) | refine SL.W.condT ?_ | refine SL.W.condF ?_) | (refine SL.TD.is ?_; first | refine SL.W.dloadX hb1 rfl ?_ | refine SL.W.dfrzX X ?_ | (refine SL.W.dfin ?_; simp only [SL.aps]) | refine SL.W.dpass ?_ | refine SL.W.dpure ?_ | refine SL.W.dload ?_ | refine SL.W.dloadA ?_ | refine SL.W.dfrz ?_ | (refine SL.W.dthaw ?_; simp only [SL.aps])) | ((first | refine SL.W.guardP (fun h => ?_) (fun h => ?_) | refine SL.W.condP (fun h => ?_) (fun h => ?_) | refine SL.W.dguardP (fun h => ?_) (fun h => ?_)) <;> (fail_if_success (have : h = trivial := rfl)) <;> (fail_if_success (have : h = not_false := rfl)) <;> first | contradiction | (exfalso; omega) | (exfalso; revert h; simp; done) | skip) | ((first | refine SL.W.guardB (fun h => ?_) (fun h => ?_) | refine SL.W.dguardB (fun h => ?_) (fun h => ?_)) <;> (fail_if_success (have : h = (rfl : true = true) := rfl)) <;> (fail_if_success (have : h = (rfl : false = false) := rfl))) | refine SL.W.condB (fun h => ?_) (fun h => ?_) | (refine SL.TD.is ?_; first | refine SL.W.done ?_ | refine SL.W.dtwo ?_ ?_ | refine SL.W.dthree ?_ ?_ ?_))
    iterate 2
      rw [hfH.out]
      refine SL.TK.againD ih ⟨i + 1, by omega, by rw [hE.out, hS.out.1, if_neg (by rintro ⟨c1, c2⟩; first | contradiction | omega)], rfl, rfl, rfl⟩ (by first | ((repeat (first | exact SL.Sub.nil | refine SL.Sub.cons (by rfl) (by first | rfl | exact SL.int_eq (by omega)) ?_)); done) | fail) ?_ (by omega)
      exact EntD.cons (by first | ((repeat (first | exact SL.Pick.head | apply SL.Pick.tail)); done) | fail) (EntD.cons (by first | ((repeat (first | exact SL.Pick.head | apply SL.Pick.tail)); done) | fail) EntD.nil)
    all_goals
      refine Stop.mk ?_
      have hle : i + 1 ≤ bs.length := by omega
      have hfit : shrI .u8 v0 mb = shrI .u8 mk mb := by rename_i hh _; exact Decidable.not_not.1 hh
      have hSH := Lib.hid (And.intro hle hfit)
      clear hfit hb1 hcut hmb0
      rintro ρ L m ⟨k, hk, rfl, rfl, rfl⟩ ih2
      by_cases hlk : k < i
      · obtain ⟨hkl, htk⟩ := hT.out k hlk hle
        have hs52 : sl (some q) 1 (i + 1) cap 1 = .slice (some (q.add 1)) i (cap - 1) := by
          unfold sl
          rw [if_neg (by omega)]
          rfl
        have hb2 : RdA X ((q.add 1).add (k * 1)) [.int .u8 (bs[k + 1].toNat : Int)] := by
          rw [add_add, show 1 + k * 1 = (k + 1) * 1 by omega]
          exact hbyte.out (k + 1) hkl
        obtain ⟨x, hx⟩ : ∃ x : Int, x = (bs[k + 1].toNat : Int) := ⟨_, rfl⟩
        rw [← hx] at hb2 htk
        have htk2 : (tl.take (k + 1)).foldl stepU (true, IntKind.i32.wrap (andI .u8 v0 (IntKind.u8.wrap (shlI .u8 1 mb - 1)))) = stepU ((tl.take k).foldl stepU (true, IntKind.i32.wrap (andI .u8 v0 (IntKind.u8.wrap (shlI .u8 1 mb - 1))))) x := by rw [htk, List.foldl_append]; rfl
        obtain ⟨s, hs⟩ : ∃ s, s = (tl.take k).foldl stepU (true, IntKind.i32.wrap (andI .u8 v0 (IntKind.u8.wrap (shlI .u8 1 mb - 1)))) := ⟨_, rfl⟩
        rw [← hs] at htk2 ⊢
        obtain ⟨ok, c⟩ := s
        have hK2 := Lib.hid htk2
        have h5H := Lib.hid hs52
        have h1 := fun (b8 b7 : Nat) => first1_spec x ok c b8 b7
        clear htk htk2 hs hx hs52 ih
        repeat' (first | (refine SL.TO.is ?_; first | (refine SL.W.quick ?_; first | refine SL.W.pass ?_ | refine SL.W.pv ?_ | refine SL.W.pv0 ?_) | (refine SL.TO.door (o := ⟨_, .call _, _, _, _, _⟩) ?_; first | (refine SL.TO.door (o := ⟨_, .call ⟨.value (.tmp _), _, _⟩, _, _, _, _⟩) ?_; first | (refine SL.TO.callVal (cap := [.pointer (some ⟨_, 0, none⟩), .pointer (some ⟨_, 0, none⟩)]) (h1 _ _) (by rfl) (by rfl) rfl (by first | ((repeat (first | exact SL.EvAll.nil | (apply SL.EvAll.cons; rfl))); done) | fail) (by rfl) (by first | ((repeat (first | exact SL.Frm.nil | exact SL.Frm.refl | (apply SL.Frm.cons; repeat (first | exact SL.Pick.head | apply SL.Pick.tail)))); done) | fail) ?_; rintro _ _ ⟨rfl, rfl⟩; try simp only [SL.aps]))) | (refine SL.TO.door (o := ⟨_, .indexAddr _ _ _, _, _, _, _⟩) ?_; first | (refine SL.TO.slot (d := 52) (by rfl) h5H.out ?_; refine SL.W.pvn (SL.PV.indexAddrQ (i' := k) (by rfl) (by rfl) rfl (by omega)) ?_)) | (refine SL.TO.door (o := ⟨_, .load _ _, _, _, _, _⟩) ?_; first | refine SL.W.loadX hb2 rfl ?_) | refine SL.TO.nil ?_ | (refine SL.TO.nilD ?_; simp only [SL.setB]) | refine SL.W.pass ?_ | refine SL.W.pass0 ?_ | (refine SL.W.pure ?_; first | refine SL.W.pv ?_ | refine SL.W.pv0 ?_) | (refine SL.W.loud ?_; first | refine SL.W.load ?_ | refine SL.W.loadA ?_ | refine SL.W.store ?_ | refine SL.W.storeA ?_ | (refine SL.W.box ?_; intro b) | (refine SL.W.alloc ?_; intro b) | (refine SL.W.buildSlice ?_; intro b) | (refine SL.W.append ?_; intro a cap) | refine SL.W.bytesToStr ?_ | refine SL.W.toIntC ?_ | (refine SL.W.makeSlice ?_; intro b))) | (refine SL.TK.is ?_; first | refine SL.TK.seq ?_ | refine SL.TK.region ?_ | refine SL.TK.regionD SL.mixed (by simp only [SL.falses] <;> rfl) ?_ | refine SL.TK.block ?_ | refine SL.TK.inBlock ?_ | refine SL.TK.skip ?_ | refine SL.TK.scope ?_ | refine SL.TK.inScope ?_ | refine SL.TK.label ?_ | (refine SL.TK.isExit ?_; refine SL.W.exit ?_) | refine SL.W.condT ?_ | refine SL.W.condF ?_) | (refine SL.TD.is ?_; first | (refine SL.W.dfin ?_; simp only [SL.aps]) | refine SL.W.dpass ?_ | refine SL.W.dpure ?_ | refine SL.W.dload ?_ | refine SL.W.dloadA ?_ | refine SL.W.dfrz ?_ | (refine SL.W.dthaw ?_; simp only [SL.aps])) | ((first | refine SL.W.guardP (fun h => ?_) (fun h => ?_) | refine SL.W.condP (fun h => ?_) (fun h => ?_) | refine SL.W.dguardP (fun h => ?_) (fun h => ?_)) <;> (fail_if_success (have : h = trivial := rfl)) <;> (fail_if_success (have : h = not_false := rfl)) <;> first | contradiction | (exfalso; omega) | (exfalso; revert h; simp; done) | skip) | ((first | refine SL.W.guardB (fun h => ?_) (fun h => ?_) | refine SL.W.dguardB (fun h => ?_) (fun h => ?_)) <;> (fail_if_success (have : h = (rfl : true = true) := rfl)) <;> (fail_if_success (have : h = (rfl : false = false) := rfl))) | refine SL.W.condB (fun h => ?_) (fun h => ?_) | (refine SL.TD.is ?_; first | refine SL.W.done ?_ | refine SL.W.dtwo ?_ ?_ | refine SL.W.dthree ?_ ?_ ?_))
        refine SL.TK.slot (d := 52) (by rfl) h5H.out.symm ?_
        refine SL.TK.againD ih2 ⟨k + 1, by omega, rfl, rfl, rfl⟩ (by first | ((repeat (first | exact SL.Sub.nil | refine SL.Sub.cons (by rfl) (by first | rfl | exact SL.int_eq (by omega)) ?_)); done) | fail) ?_ (by omega)
        rw [hK2.out]
        exact EntD.cons (by first | ((repeat (first | exact SL.Pick.head | apply SL.Pick.tail)); done) | fail) (EntD.cons (by first | ((repeat (first | exact SL.Pick.head | apply SL.Pick.tail)); done) | fail) (EntD.cons (by first | ((repeat (first | exact SL.Pick.head | apply SL.Pick.tail)); done) | fail) (EntD.cons (by first | ((repeat (first | exact SL.Pick.head | apply SL.Pick.tail)); done) | fail) EntD.nil)))
      · have hki : k = i := by omega
        subst hki
        have hfo : foldU (ints bs) k = (tl.take k).foldl stepU (true, IntKind.i32.wrap (andI .u8 v0 (IntKind.u8.wrap (shlI .u8 1 mb - 1)))) := by
          rw [hS.out.2, List.take_of_length_le (by rw [hTl.out hle]; exact Nat.le_refl _)]
        obtain ⟨s, hs⟩ : ∃ s, s = (tl.take k).foldl stepU (true, IntKind.i32.wrap (andI .u8 v0 (IntKind.u8.wrap (shlI .u8 1 mb - 1)))) := ⟨_, rfl⟩
        rw [← hs] at hfo ⊢
        have hF : firstF (ints bs) 0 4 = if s.1 = true ∧ sizeU s.2 = (k : Int) + 1 then (s.2, (k : Int) + 1) else firstF (ints bs) (k + 1) (4 - (k + 1)) := by
          rw [hE.out, hS.out.1, if_pos ⟨hSH.out.2, hSH.out.1⟩, hfo]
        have hFH := Lib.hid hF
        obtain ⟨ok, c⟩ := s
        clear hs hfo hF ih2
        cases ok
        · repeat' (first | (refine SL.TO.is ?_; first | (refine SL.W.quick ?_; first | refine SL.W.pass ?_ | refine SL.W.pv ?_ | refine SL.W.pv0 ?_) | (refine SL.TO.door (o := ⟨_, .call _, _, _, _, _⟩) ?_; first | (refine SL.TO.door (o := ⟨_, .call ⟨.value (.func 155), _, _⟩, _, _, _, _⟩) ?_; first | (refine SL.W.call (hsz.out _) ?_; rintro _ _ ⟨rfl, rfl⟩; try simp only [SL.aps]))) | refine SL.TO.nil ?_ | (refine SL.TO.nilD ?_; simp only [SL.setB]) | refine SL.W.pass ?_ | refine SL.W.pass0 ?_ | (refine SL.W.pure ?_; first | refine SL.W.pv ?_ | refine SL.W.pv0 ?_) | (refine SL.W.loud ?_; first | refine SL.W.load ?_ | refine SL.W.loadA ?_ | refine SL.W.store ?_ | refine SL.W.storeA ?_ | (refine SL.W.box ?_; intro b) | (refine SL.W.alloc ?_; intro b) | (refine SL.W.buildSlice ?_; intro b) | (refine SL.W.append ?_; intro a cap) | refine SL.W.bytesToStr ?_ | refine SL.W.toIntC ?_ | (refine SL.W.makeSlice ?_; intro b))) | (refine SL.TK.is ?_; first | refine SL.TK.seq ?_ | refine SL.TK.region ?_ | refine SL.TK.regionD SL.mixed (by simp only [SL.falses] <;> rfl) ?_ | refine SL.TK.block ?_ | refine SL.TK.inBlock ?_ | refine SL.TK.skip ?_ | refine SL.TK.scope ?_ | refine SL.TK.inScope ?_ | refine SL.TK.label ?_ | (refine SL.TK.isExit ?_; refine SL.W.exit ?_) | refine SL.W.condT ?_ | refine SL.W.condF ?_) | (refine SL.TD.is ?_; first | (refine SL.W.dfin ?_; simp only [SL.aps]) | refine SL.W.dpass ?_ | refine SL.W.dpure ?_ | refine SL.W.dload ?_ | refine SL.W.dloadA ?_ | refine SL.W.dfrz ?_ | (refine SL.W.dthaw ?_; simp only [SL.aps])) | ((first | refine SL.W.guardP (fun h => ?_) (fun h => ?_) | refine SL.W.condP (fun h => ?_) (fun h => ?_) | refine SL.W.dguardP (fun h => ?_) (fun h => ?_)) <;> (fail_if_success (have : h = trivial := rfl)) <;> (fail_if_success (have : h = not_false := rfl)) <;> first | contradiction | (exfalso; omega) | (exfalso; revert h; simp; done) | skip) | ((first | refine SL.W.guardB (fun h => ?_) (fun h => ?_) | refine SL.W.dguardB (fun h => ?_) (fun h => ?_)) <;> (fail_if_success (have : h = (rfl : true = true) := rfl)) <;> (fail_if_success (have : h = (rfl : false = false) := rfl))) | refine SL.W.condB (fun h => ?_) (fun h => ?_) | (refine SL.TD.is ?_; first | refine SL.W.done ?_ | refine SL.W.dtwo ?_ ?_ | refine SL.W.dthree ?_ ?_ ?_))
          all_goals
            rw [hfH.out]
            refine SL.TK.againD ih ⟨k + 1, by omega, by rw [hFH.out, if_neg (by simp)], rfl, rfl, rfl⟩ (by first | ((repeat (first | exact SL.Sub.nil | refine SL.Sub.cons (by rfl) (by first | rfl | exact SL.int_eq (by omega)) ?_)); done) | fail) ?_ (by omega)
            exact EntD.cons (by first | ((repeat (first | exact SL.Pick.head | apply SL.Pick.tail)); done) | fail) (EntD.cons (by first | ((repeat (first | exact SL.Pick.head | apply SL.Pick.tail)); done) | fail) EntD.nil)
        · repeat' (first | (refine SL.TO.is ?_; first | (refine SL.W.quick ?_; first | refine SL.W.pass ?_ | refine SL.W.pv ?_ | refine SL.W.pv0 ?_) | (refine SL.TO.door (o := ⟨_, .call _, _, _, _, _⟩) ?_; first | (refine SL.TO.door (o := ⟨_, .call ⟨.value (.func 155), _, _⟩, _, _, _, _⟩) ?_; first | (refine SL.W.call (hsz.out _) ?_; rintro _ _ ⟨rfl, rfl⟩; try simp only [SL.aps]))) | refine SL.TO.nil ?_ | (refine SL.TO.nilD ?_; simp only [SL.setB]) | refine SL.W.pass ?_ | refine SL.W.pass0 ?_ | (refine SL.W.pure ?_; first | refine SL.W.pv ?_ | refine SL.W.pv0 ?_) | (refine SL.W.loud ?_; first | refine SL.W.load ?_ | refine SL.W.loadA ?_ | refine SL.W.store ?_ | refine SL.W.storeA ?_ | (refine SL.W.box ?_; intro b) | (refine SL.W.alloc ?_; intro b) | (refine SL.W.buildSlice ?_; intro b) | (refine SL.W.append ?_; intro a cap) | refine SL.W.bytesToStr ?_ | refine SL.W.toIntC ?_ | (refine SL.W.makeSlice ?_; intro b))) | (refine SL.TK.is ?_; first | refine SL.TK.seq ?_ | refine SL.TK.region ?_ | refine SL.TK.regionD SL.mixed (by simp only [SL.falses] <;> rfl) ?_ | refine SL.TK.block ?_ | refine SL.TK.inBlock ?_ | refine SL.TK.skip ?_ | refine SL.TK.scope ?_ | refine SL.TK.inScope ?_ | refine SL.TK.label ?_ | (refine SL.TK.isExit ?_; refine SL.W.exit ?_) | refine SL.W.condT ?_ | refine SL.W.condF ?_) | (refine SL.TD.is ?_; first | (refine SL.W.dfin ?_; simp only [SL.aps]) | refine SL.W.dpass ?_ | refine SL.W.dpure ?_ | refine SL.W.dload ?_ | refine SL.W.dloadA ?_ | refine SL.W.dfrz ?_ | (refine SL.W.dthaw ?_; simp only [SL.aps])) | ((first | refine SL.W.guardP (fun h => ?_) (fun h => ?_) | refine SL.W.condP (fun h => ?_) (fun h => ?_) | refine SL.W.dguardP (fun h => ?_) (fun h => ?_)) <;> (fail_if_success (have : h = trivial := rfl)) <;> (fail_if_success (have : h = not_false := rfl)) <;> first | contradiction | (exfalso; omega) | (exfalso; revert h; simp; done) | skip) | ((first | refine SL.W.guardB (fun h => ?_) (fun h => ?_) | refine SL.W.dguardB (fun h => ?_) (fun h => ?_)) <;> (fail_if_success (have : h = (rfl : true = true) := rfl)) <;> (fail_if_success (have : h = (rfl : false = false) := rfl))) | refine SL.W.condB (fun h => ?_) (fun h => ?_) | (refine SL.TD.is ?_; first | refine SL.W.done ?_ | refine SL.W.dtwo ?_ ?_ | refine SL.W.dthree ?_ ?_ ?_))
          · exact SL.TK.retD Tryz.func130 (SL.Res.two rfl (by rfl) (by rfl)) ⟨by rw [hFH.out, if_pos ⟨rfl, by assumption⟩], rfl⟩ (EntD.cons (by first | ((repeat (first | exact SL.Pick.head | apply SL.Pick.tail)); done) | fail) (EntD.cons (by first | ((repeat (first | exact SL.Pick.head | apply SL.Pick.tail)); done) | fail) EntD.nil))
          · rw [hfH.out]
            refine SL.TK.againD ih ⟨k + 1, by omega, by rw [hFH.out, if_neg (fun c => by have := c.2; contradiction)], rfl, rfl, rfl⟩ (by first | ((repeat (first | exact SL.Sub.nil | refine SL.Sub.cons (by rfl) (by first | rfl | exact SL.int_eq (by omega)) ?_)); done) | fail) ?_ (by omega)
            exact EntD.cons (by first | ((repeat (first | exact SL.Pick.head | apply SL.Pick.tail)); done) | fail) (EntD.cons (by first | ((repeat (first | exact SL.Pick.head | apply SL.Pick.tail)); done) | fail) EntD.nil)
  · have hil : i = 4 := by omega
    subst hil
    clear ih hX hY
    have e : firstF (ints bs) 0 4 = (0, 0) := hE.out
    rw [e]
    repeat' (first | (refine SL.TO.is ?_; first | (refine SL.W.quick ?_; first | refine SL.W.pass ?_ | refine SL.W.pv ?_ | refine SL.W.pv0 ?_) | refine SL.TO.nil ?_ | (refine SL.TO.nilD ?_; simp only [SL.setB]) | refine SL.W.pass ?_ | refine SL.W.pass0 ?_ | (refine SL.W.pure ?_; first | refine SL.W.pv ?_ | refine SL.W.pv0 ?_) | (refine SL.W.loud ?_; first | refine SL.W.load ?_ | refine SL.W.loadA ?_ | refine SL.W.store ?_ | refine SL.W.storeA ?_ | (refine SL.W.box ?_; intro b) | (refine SL.W.alloc ?_; intro b) | (refine SL.W.buildSlice ?_; intro b) | (refine SL.W.append ?_; intro a cap) | refine SL.W.bytesToStr ?_ | refine SL.W.toIntC ?_ | (refine SL.W.makeSlice ?_; intro b))) | (refine SL.TK.is ?_; first | refine SL.TK.seq ?_ | refine SL.TK.region ?_ | refine SL.TK.regionD SL.mixed (by simp only [SL.falses] <;> rfl) ?_ | refine SL.TK.block ?_ | refine SL.TK.inBlock ?_ | refine SL.TK.skip ?_ | refine SL.TK.scope ?_ | refine SL.TK.inScope ?_ | refine SL.TK.label ?_ | (refine SL.TK.isExit ?_; refine SL.W.exit ?_) | refine SL.W.condT ?_ | refine SL.W.condF ?_) | (refine SL.TD.is ?_; first | (refine SL.W.dfin ?_; simp only [SL.aps]) | refine SL.W.dpass ?_ | refine SL.W.dpure ?_ | refine SL.W.dload ?_ | refine SL.W.dloadA ?_ | refine SL.W.dfrz ?_ | (refine SL.W.dthaw ?_; simp only [SL.aps])) | ((first | refine SL.W.guardP (fun h => ?_) (fun h => ?_) | refine SL.W.condP (fun h => ?_) (fun h => ?_) | refine SL.W.dguardP (fun h => ?_) (fun h => ?_)) <;> (fail_if_success (have : h = trivial := rfl)) <;> (fail_if_success (have : h = not_false := rfl)) <;> first | contradiction | (exfalso; omega) | (exfalso; revert h; simp; done) | skip) | ((first | refine SL.W.guardB (fun h => ?_) (fun h => ?_) | refine SL.W.dguardB (fun h => ?_) (fun h => ?_)) <;> (fail_if_success (have : h = (rfl : true = true) := rfl)) <;> (fail_if_success (have : h = (rfl : false = false) := rfl))) | refine SL.W.condB (fun h => ?_) (fun h => ?_) | (refine SL.TD.is ?_; first | refine SL.W.done ?_ | refine SL.W.dtwo ?_ ?_ | refine SL.W.dthree ?_ ?_ ?_))
    exact SL.TK.retD Tryz.func130 (SL.Res.two rfl (by rfl) (by rfl)) ⟨rfl, rfl⟩ (EntD.cons (by first | ((repeat (first | exact SL.Pick.head | apply SL.Pick.tail)); done) | fail) (EntD.cons (by first | ((repeat (first | exact SL.Pick.head | apply SL.Pick.tail)); done) | fail) EntD.nil))
end SL
end
