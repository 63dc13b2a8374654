/-
  Chapter 29: the document's Take, Double and Flip.
-/
import Derived.Test.YtidogcbcknpdiaaNet18
set_option linter.unusedVariables false
set_option linter.unusedSimpArgs false
set_option maxRecDepth 10000
namespace SL
open Go Go.Proofs Go.RowKit
theorem ref_take {rb m cap k : Nat} {a : Option Addr} {l : List Fr} {f : Fr} {s : Option Addr × Nat} (fs : Frs) (hfs : fs.map (·.1) = l) (hk : fs[k]? = some (f, s)) (hm : m = l.length - 1) :
    ∀ h, seps [SL.blk rb 50 [.slice a m cap], own 53 5 a m cap (cellsP (fs.eraseIdx k)), seps (framesP fs)] h → seps [RefAt rb (l.eraseIdx k), byt s f.bs] h := by
  intro h x
  have hlt : k < fs.length := (List.getElem?_eq_some_iff.1 hk).1
  have x1 := sep_mono (fun _ y => y) (fun _ y => sep_mono (fun _ z => z) (fun _ z => (frames_pick hk _).1 (sep_emp.1 (sep_comm z))) y) x
  have x2 := sep_mono (fun _ y => y) (fun _ y => sep_mono (fun _ z => z) (fun _ z => sep_comm z) y) x1
  have x3 := sep_mono (fun _ y => y) (fun _ y => sep_assoc.2 y) x2
  have x4 := sep_assoc.2 x3
  refine sep_mono (fun h' y => ?_) (fun _ y => sep_comm (sep_emp.2 y)) x4
  refine ref_shut (m := m) (cap := cap) (a := a) (fs.eraseIdx k) ?_ ?_ h' (sep_mono (fun _ z => z) (fun _ z => sep_mono (fun _ u => u) (fun _ u => sep_comm (sep_emp.2 u)) z) y)
  · rw [← hfs, List.eraseIdx_eq_take_drop_succ, List.eraseIdx_eq_take_drop_succ, List.map_append, List.map_take, List.map_drop]
  · rw [hm, List.length_eraseIdx_of_lt (by rw [← hfs, List.length_map]; exact hlt)]
attribute [local irreducible] SL.TK SL.TO SL.TD SL.PV SL.Pick SL.Frm SL.Ent SL.Sub SL.EvAll SL.seps SL.sep SL.Cut SL.PutAt SL.blk SL.EvP SL.Fill SL.Src SL.EntD SL.own SL.ex SL.fact SL.orig

theorem rtake_out (rb : Nat) (k : Int) (l : List Fr) (hk : ¬ (0 ≤ k ∧ k < l.length)) : Spec Try.prog 19 [.pointer (some ⟨rb, 0, none⟩), .int .i64 k] [RefAt rb l]
    (fun r L => r = .tuple #[.agg zf.toArray, .int .i64 6] ∧ L = [RefAt rb l]) := by
  refine SL.Spec.of_TK Go.Proofs.Try.func19 rfl rfl SL.call19 rfl ?_
  refine SL.TK.openRef (by first | ((repeat (first | exact SL.Pick.head | apply SL.Pick.tail)); done) | fail) (fun a1 cap1 fs hfs => ?_)
  have hH := Lib.hid hfs
  clear hfs
  have hk2 : k < 0 ∨ (l.length : Int) ≤ k := by omega
  clear hk
  repeat' (first | (refine SL.TO.is ?_; first | (refine SL.TO.door (o := ⟨_, .call ⟨.value (.func 99), _, _⟩, _, _, _, _⟩) ?_; first | skip) | refine SL.TO.nil ?_ | (refine SL.TO.nilD ?_; simp only [SL.setB]) | refine SL.W.pass ?_ | refine SL.W.pass0 ?_ | (refine SL.W.pure ?_; first | refine SL.W.pv ?_ | refine SL.W.pv0 ?_ | refine SL.W.lenMp ?_ | (refine SL.W.guardP (fun h => ?_) (fun h => ?_) <;> (fail_if_success (have : h = trivial := rfl)) <;> (fail_if_success (have : h = not_false := rfl)) <;> first | contradiction | (exfalso; omega) | (exfalso; revert h; simp; done) | skip) | (refine SL.W.guardB (fun h => ?_) (fun h => ?_) <;> (fail_if_success (have : h = (rfl : true = true) := rfl)) <;> (fail_if_success (have : h = (rfl : false = false) := rfl)))) | (refine SL.W.loud ?_; first | refine SL.W.load ?_ | refine SL.W.loadA ?_ | refine SL.W.store ?_ | refine SL.W.storeA ?_ | (refine SL.W.box ?_; intro b) | (refine SL.W.alloc ?_; intro b) | (refine SL.W.buildSlice ?_; intro b) | (refine SL.W.append ?_; intro a cap) | refine SL.W.bytesToStr ?_ | refine SL.W.pvn (SL.PV.toIntC (by rfl) (by first | exact SL.wrap_i64 (by omega) | exact SL.wrap_u8 (by omega) | exact SL.wrap_u32 (by omega) | exact SL.wrap_u64 (by omega) | rfl)) ?_ | (refine SL.W.makeSlice ?_; intro b) | refine SL.W.lookupOk ?_ | refine SL.W.lookup ?_ | (refine SL.W.makeMap ?_; intro b) | refine SL.W.mapUpdate ?_ | (refine SL.W.mapEntry ?_; intro stamp) | refine SL.W.entryStore ?_ | (refine SL.W.range ?_; intro it) | refine SL.W.delete ?_ | (refine SL.W.guardP (fun h => ?_) (fun h => ?_) <;> (fail_if_success (have : h = trivial := rfl)) <;> (fail_if_success (have : h = not_false := rfl)) <;> first | contradiction | (exfalso; omega) | (exfalso; revert h; simp; done) | skip) | (refine SL.W.guardB (fun h => ?_) (fun h => ?_) <;> (fail_if_success (have : h = (rfl : true = true) := rfl)) <;> (fail_if_success (have : h = (rfl : false = false) := rfl))))) | (refine SL.TK.is ?_; first | refine SL.TK.seq ?_ | refine SL.TK.region ?_ | refine SL.TK.regionD SL.mixed (by simp only [SL.falses] <;> rfl) ?_ | refine SL.TK.block ?_ | refine SL.TK.inBlock ?_ | refine SL.TK.skip ?_ | refine SL.TK.scope ?_ | refine SL.TK.inScope ?_ | refine SL.TK.label ?_ | refine SL.W.exit ?_ | refine SL.W.condT ?_ | refine SL.W.condF ?_ | (refine SL.W.condP (fun h => ?_) (fun h => ?_) <;> (fail_if_success (have : h = trivial := rfl)) <;> (fail_if_success (have : h = not_false := rfl)) <;> first | contradiction | (exfalso; omega) | (exfalso; revert h; simp; done) | skip) | refine SL.W.condB (fun h => ?_) (fun h => ?_)) | (refine SL.TD.is ?_; first | (refine SL.W.dfin ?_; simp only [List.append_nil, List.cons_append, List.nil_append]) | refine SL.W.dpass ?_ | refine SL.W.dpure ?_ | refine SL.W.dload ?_ | refine SL.W.dloadA ?_ | refine SL.W.dfrz ?_ | (refine SL.W.dthaw ?_; simp only [List.append_nil, List.cons_append, List.nil_append]) | (refine SL.W.dguardP (fun h => ?_) (fun h => ?_) <;> (fail_if_success (have : h = trivial := rfl)) <;> (fail_if_success (have : h = not_false := rfl)) <;> first | contradiction | (exfalso; omega) | (exfalso; revert h; simp; done) | skip) | (refine SL.W.dguardB (fun h => ?_) (fun h => ?_) <;> (fail_if_success (have : h = (rfl : true = true) := rfl)) <;> (fail_if_success (have : h = (rfl : false = false) := rfl))) | refine SL.W.done ?_ | refine SL.W.dtwo ?_ ?_ | refine SL.W.dthree ?_ ?_ ?_))
  all_goals exact SL.TK.retD Try.func19 (SL.Res.cellAT rfl (by rfl) (by rfl) (by first | ((repeat (first | exact SL.Pick.head | apply SL.Pick.tail)); done) | fail) (by first | ((repeat (first | exact SL.Cut.zero _ | apply SL.Cut.take | apply SL.Cut.drop)); done) | fail)) ⟨rfl, rfl⟩ (EntD.frm (by first | ((repeat (first | exact SL.Frm.nil | exact SL.Frm.refl | (apply SL.Frm.cons; repeat (first | exact SL.Pick.head | apply SL.Pick.tail)))); done) | fail) (ref_shut fs hH.out rfl) EntD.nil)

theorem rtake_in (rb k : Nat) (l : List Fr) (f : Fr) (hk : l[k]? = some f) (hl : l.length ≤ 100000) : Spec Try.prog 19 [.pointer (some ⟨rb, 0, none⟩), .int .i64 k] [RefAt rb l]
    (fun r L => ∃ s, r = .tuple #[.agg (frV f s).toArray, .int .i64 0] ∧ L = [RefAt rb (l.eraseIdx k), byt s f.bs]) := by
  refine SL.Spec.of_TK Go.Proofs.Try.func19 rfl rfl SL.call19 rfl ?_
  refine SL.TK.openRef (by first | ((repeat (first | exact SL.Pick.head | apply SL.Pick.tail)); done) | fail) (fun a1 cap1 fs hfs => ?_)
  have hlen : fs.length = l.length := by rw [← hfs, List.length_map]
  have hlt : k < l.length := (List.getElem?_eq_some_iff.1 hk).1
  obtain ⟨p, hp⟩ : ∃ p, fs[k]? = some p := ⟨fs[k]'(by omega), List.getElem?_eq_getElem (by omega)⟩
  obtain ⟨f', s⟩ := p
  have hf : f' = f := by
    rw [← hfs, List.getElem?_map, hp] at hk
    simpa using hk
  subst hf
  have hH := Lib.hid hfs
  have hHl := Lib.hid hlen
  rw [← hlen]
  refine SL.TK.ownPos (e := 53) (by first | ((repeat (first | exact SL.Pick.head | apply SL.Pick.tail)); done) | fail) (by omega) (fun b0 extra ea e1 e2 e3 => ?_)
  subst ea
  have hcut := cellsP_cut (extra := extra) hp
  have hcl := cellsP_length fs
  have hc1 : Cut (cellsP fs ++ extra) 0 (k * 5) (cellsP (fs.take k)) := by
    refine Cut.intro (by rw [cellsP_length, List.length_take, Nat.min_eq_left (by omega)]) (fun j v hj => ?_)
    have hj' : j < k * 5 := by
      have := (List.getElem?_eq_some_iff.1 hj).1
      rwa [cellsP_length, List.length_take, Nat.min_eq_left (by omega)] at this
    rw [← cellsP_take, List.getElem?_take_of_lt hj'] at hj
    rw [Nat.zero_add, List.getElem?_append_left (by rw [hcl]; omega)]
    exact hj
  have hc2 : Cut (cellsP fs ++ extra) (0 + (k + 1) * 5) ((fs.length - (k + 1)) * 5) (cellsP (fs.drop (k + 1))) := by
    refine Cut.intro (by rw [cellsP_length, List.length_drop]) (fun j v hj => ?_)
    have hj' : j < (fs.length - (k + 1)) * 5 := by
      have := (List.getElem?_eq_some_iff.1 hj).1
      rwa [cellsP_length, List.length_drop] at this
    rw [← cellsP_drop, List.getElem?_drop] at hj
    rw [Nat.zero_add, List.getElem?_append_left (by rw [hcl]; omega)]
    exact hj
  have ho1 := one_cellsP (fs.take k)
  have ho2 := one_cellsP (fs.drop (k + 1))
  have hE : cellsP (fs.take k) ++ cellsP (fs.drop (k + 1)) = cellsP (fs.eraseIdx k) := by rw [← cellsP_append, List.eraseIdx_eq_take_drop_succ]
  have hEE := Lib.hid hE
  clear hE hcl
  have hn1 : (k : Int) + 1 = ((k + 1 : Nat) : Int) := by omega
  have hn1H := Lib.hid hn1
  have hltf : k < fs.length := by omega
  have hfl : fs.length ≤ 100000 := by omega
  clear hn1 hlen e1 e2 hfs
  refine SL.TK.entD (L' := [own 53 5 none 0 0 [], SL.blk b0 53 (cellsP fs ++ extra), SL.blk rb 50 [.slice (some ⟨b0, 0, none⟩) fs.length cap1], seps (framesP fs)]) (EntD.of_ent (Ent.own_nil (Ent.cons (by first | ((repeat (first | exact SL.Pick.head | apply SL.Pick.tail)); done) | fail) (Ent.cons (by first | ((repeat (first | exact SL.Pick.head | apply SL.Pick.tail)); done) | fail) (Ent.cons (by first | ((repeat (first | exact SL.Pick.head | apply SL.Pick.tail)); done) | fail) Ent.refl))))) ?_
  repeat' (first | (refine SL.TO.is ?_; first | (refine SL.TO.door (o := ⟨_, .load _ _, _, _, _, _⟩) ?_; first | refine SL.W.loadAN hcut ?_) | (refine SL.TO.door (o := ⟨_, .slice _ _ _ _ _, _, _, _, _⟩) ?_; first | refine SL.W.pvn (SL.PV.sliceLo (lo := k + 1) (by rfl) (by rfl) hn1H.out (by omega)) ?_) | (refine SL.TO.door (o := ⟨_, .call ⟨.builtin .append, _, _⟩, _, _, _, _⟩) ?_; first | (refine SL.W.append (new := cellsP (fs.take k)) (m' := k) (hs := SL.Src.blk (by first | ((repeat (first | exact SL.Pick.head | apply SL.Pick.tail)); done) | fail) hc1) ?_; intro a2 cap2) | (refine SL.W.append (new := cellsP (fs.drop (k + 1))) (m' := fs.length - (k + 1)) (s2 := fs.length - 1) (cs2 := cellsP (fs.eraseIdx k)) (hs := SL.Src.sl (by first | ((repeat (first | exact SL.Pick.head | apply SL.Pick.tail)); done) | fail) (by omega) (by omega) hc2) (hs2 := by omega) (hcs2 := hEE.out) ?_; intro a3 cap3)) | refine SL.TO.nil ?_ | (refine SL.TO.nilD ?_; simp only [SL.setB]) | refine SL.W.pass ?_ | refine SL.W.pass0 ?_ | (refine SL.W.pure ?_; first | refine SL.W.pv ?_ | refine SL.W.pv0 ?_ | refine SL.W.lenMp ?_ | (refine SL.W.guardP (fun h => ?_) (fun h => ?_) <;> (fail_if_success (have : h = trivial := rfl)) <;> (fail_if_success (have : h = not_false := rfl)) <;> first | contradiction | (exfalso; omega) | (exfalso; revert h; simp; done) | skip) | (refine SL.W.guardB (fun h => ?_) (fun h => ?_) <;> (fail_if_success (have : h = (rfl : true = true) := rfl)) <;> (fail_if_success (have : h = (rfl : false = false) := rfl)))) | (refine SL.W.loud ?_; first | refine SL.W.load ?_ | refine SL.W.loadA ?_ | refine SL.W.store ?_ | refine SL.W.storeA ?_ | (refine SL.W.box ?_; intro b) | (refine SL.W.alloc ?_; intro b) | (refine SL.W.buildSlice ?_; intro b) | (refine SL.W.append ?_; intro a cap) | refine SL.W.bytesToStr ?_ | refine SL.W.pvn (SL.PV.toIntC (by rfl) (by first | exact SL.wrap_i64 (by omega) | exact SL.wrap_u8 (by omega) | exact SL.wrap_u32 (by omega) | exact SL.wrap_u64 (by omega) | rfl)) ?_ | (refine SL.W.makeSlice ?_; intro b) | refine SL.W.lookupOk ?_ | refine SL.W.lookup ?_ | (refine SL.W.makeMap ?_; intro b) | refine SL.W.mapUpdate ?_ | (refine SL.W.mapEntry ?_; intro stamp) | refine SL.W.entryStore ?_ | (refine SL.W.range ?_; intro it) | refine SL.W.delete ?_ | (refine SL.W.guardP (fun h => ?_) (fun h => ?_) <;> (fail_if_success (have : h = trivial := rfl)) <;> (fail_if_success (have : h = not_false := rfl)) <;> first | contradiction | (exfalso; omega) | (exfalso; revert h; simp; done) | skip) | (refine SL.W.guardB (fun h => ?_) (fun h => ?_) <;> (fail_if_success (have : h = (rfl : true = true) := rfl)) <;> (fail_if_success (have : h = (rfl : false = false) := rfl))))) | (refine SL.TK.is ?_; first | refine SL.TK.seq ?_ | refine SL.TK.region ?_ | refine SL.TK.regionD SL.mixed (by simp only [SL.falses] <;> rfl) ?_ | refine SL.TK.block ?_ | refine SL.TK.inBlock ?_ | refine SL.TK.skip ?_ | refine SL.TK.scope ?_ | refine SL.TK.inScope ?_ | refine SL.TK.label ?_ | refine SL.W.exit ?_ | refine SL.W.condT ?_ | refine SL.W.condF ?_ | (refine SL.W.condP (fun h => ?_) (fun h => ?_) <;> (fail_if_success (have : h = trivial := rfl)) <;> (fail_if_success (have : h = not_false := rfl)) <;> first | contradiction | (exfalso; omega) | (exfalso; revert h; simp; done) | skip) | refine SL.W.condB (fun h => ?_) (fun h => ?_)) | (refine SL.TD.is ?_; first | (refine SL.W.dfin ?_; simp only [List.append_nil, List.cons_append, List.nil_append]) | refine SL.W.dpass ?_ | refine SL.W.dpure ?_ | refine SL.W.dload ?_ | refine SL.W.dloadA ?_ | refine SL.W.dfrz ?_ | (refine SL.W.dthaw ?_; simp only [List.append_nil, List.cons_append, List.nil_append]) | (refine SL.W.dguardP (fun h => ?_) (fun h => ?_) <;> (fail_if_success (have : h = trivial := rfl)) <;> (fail_if_success (have : h = not_false := rfl)) <;> first | contradiction | (exfalso; omega) | (exfalso; revert h; simp; done) | skip) | (refine SL.W.dguardB (fun h => ?_) (fun h => ?_) <;> (fail_if_success (have : h = (rfl : true = true) := rfl)) <;> (fail_if_success (have : h = (rfl : false = false) := rfl))) | refine SL.W.done ?_ | refine SL.W.dtwo ?_ ?_ | refine SL.W.dthree ?_ ?_ ?_))
  exact SL.TK.retD Try.func19 (SL.Res.cellAT rfl (by rfl) (by rfl) (by first | ((repeat (first | exact SL.Pick.head | apply SL.Pick.tail)); done) | fail) (by first | ((repeat (first | exact SL.Cut.zero _ | apply SL.Cut.take | apply SL.Cut.drop)); done) | fail)) ⟨s, rfl, rfl⟩ (EntD.all (by first | ((repeat (first | exact SL.Frm.nil | exact SL.Frm.refl | (apply SL.Frm.cons; repeat (first | exact SL.Pick.head | apply SL.Pick.tail)))); done) | fail) (ref_take fs hH.out hp (by rw [hHl.out])))
end SL
