/-
  Contract of the law's does: a message comes, or is lost.
-/
import Derived.Test.YtjnlkljmaiddnaaCo19
set_option linter.unusedVariables false
set_option linter.unusedSimpArgs false
set_option maxRecDepth 10000

namespace SL
open Go Go.Proofs Go.RowKit
theorem bag_cuts {cs ex : List Value} {M k : Nat} (hl : cs.length = M * 21) (hk : k < M) : Cut (cs ++ ex) 0 (k * 21) (cs.take (k * 21)) ∧ Cut (cs ++ ex) (0 + (k + 1) * 21) ((M - (k + 1)) * 21) (cs.drop ((k + 1) * 21)) := by
  refine ⟨Cut.intro (by rw [List.length_take, hl]; omega) fun j v hj => ?_, Cut.intro (by rw [List.length_drop, hl, Nat.sub_mul]) fun j v hj => ?_⟩
  · have h1 := (List.getElem?_eq_some_iff.1 hj).1
    rw [List.length_take] at h1
    rw [List.getElem?_take_of_lt (by omega)] at hj
    rw [Nat.zero_add, List.getElem?_append_left (by omega)]
    exact hj
  · rw [List.getElem?_drop] at hj
    rw [Nat.zero_add, List.getElem?_append_left (List.getElem?_eq_some_iff.1 hj).1]
    exact hj
attribute [local irreducible] SL.TK SL.TO SL.TD SL.PV SL.Pick SL.Frm SL.Ent SL.Sub SL.EvAll SL.seps SL.sep SL.Cut SL.PutAt SL.blk SL.EvP SL.Fill SL.Src SL.EntD SL.own SL.ex SL.fact SL.orig
theorem does_m {n v p : Nat} {f : Nat → Cs} {bag : List (Nat × Mg)} (gb : Nat) (ps : Nat → Nat) (h : GInv n v p f bag) (hbag : bag.length ≤ 1000000) (what : Int) (hw : what = 1 ∨ what = 2 ∨ what = 3) (N : Nat) (hN : N ≤ 65535) (k t : Nat) (m : Mg) (hkN : k = N % bag.length) (hne : 0 < bag.length) (hbk : bag[k]? = some (t, m)) :
    Spec Try.prog 38 [.pointer (some ⟨gb, 0, none⟩), .agg [.int .i64 what, .int .u16 (N : Int)].toArray] [GroupAt gb (lsF n ps f) bag]
    (fun r L => r = .bool true ∧ L = [GroupAt gb (lsF n ps (if what = 3 then (f, bag.take k ++ bag.drop (k + 1)) else comeR p f (if what = 2 then bag else bag.take k ++ bag.drop (k + 1)) t m).1) (if what = 3 then (f, bag.take k ++ bag.drop (k + 1)) else comeR p f (if what = 2 then bag else bag.take k ++ bag.drop (k + 1)) t m).2]) := by
  have hp := h.pn
  have h1 := h.n1
  have h7 := h.n7
  have hpr := prim_spec gb n v ps f bag h1 h7 (h.vw 0 (by omega))
  rw [← h.pp] at hpr
  have hpr := Lib.hid hpr
  have hkl : k < bag.length := (List.getElem?_eq_some_iff.1 hbk).1
  have hmem := List.mem_of_getElem? hbk
  have hrest : ∀ x ∈ bag.take k ++ bag.drop (k + 1), x ∈ bag := fun x hx => by
    rcases List.mem_append.1 hx with hx | hx
    · exact List.mem_of_mem_take hx
    · exact List.mem_of_mem_drop hx
  have hlr : (bag.take k ++ bag.drop (k + 1)).length = k + (bag.length - (k + 1)) := by simp; omega
  have hc1 := Lib.hid fun (a : Option Addr) (c : Nat) => come_spec gb ps h (h.msg _ hmem) hbag a c
  have hc2 := Lib.hid fun (a : Option Addr) (c : Nat) => come_spec gb ps (h.less hrest) (h.msg _ hmem) (by rw [hlr]; omega) a c
  obtain ⟨rst, hrs⟩ : ∃ rst, rst = bag.take k ++ bag.drop (k + 1) := ⟨_, rfl⟩
  rw [← hrs] at hc2 hlr ⊢
  have hrsH := Lib.hid hrs
  have e75 : ∀ M : Nat, M = bag.length → Value.int .i64 ((N : Int) % (M : Int)) = .int .i64 (k : Int) := fun M hM => by rw [hkN, ← hM]; simp
  have hbkH := Lib.hid hbk
  clear h hmem hrest hrs hbk hkN
  refine SL.Spec.of_TK Go.Proofs.Try.func38 rfl rfl SL.call38 rfl ?_
  repeat' (first | (refine SL.TO.is ?_; first | (refine SL.W.quick ?_; first | refine SL.W.pass ?_ | refine SL.W.pv ?_ | refine SL.W.pv0 ?_) | (refine SL.TO.door (o := ⟨_, .call _, _, _, _, _⟩) ?_; first | (refine SL.TO.door (o := ⟨_, .call ⟨.value (.func 44), _, _⟩, _, _, _, _⟩) ?_; first | (refine SL.W.call (hpr.out) ?_; rintro _ _ ⟨rfl, rfl⟩; try simp only [List.cons_append, List.nil_append]))) | refine SL.TO.nil ?_ | (refine SL.TO.nilD ?_; simp only [SL.setB]) | refine SL.W.pass ?_ | refine SL.W.pass0 ?_ | (refine SL.W.pure ?_; first | (refine SL.TO.door (o := ⟨_, .binOp _ _ _ _ _, _, _, _, _⟩) ?_; first | (refine SL.TO.door (o := ⟨_, .binOp .eql _ _ _ _, _, _, _, _⟩) ?_; refine SL.W.pvn (SL.PV.eqIF (by rfl) (by rfl) (by omega)) ?_)) | refine SL.W.pv ?_ | refine SL.W.pv0 ?_) | (refine SL.W.loud ?_; first | refine SL.W.load ?_ | refine SL.W.loadA ?_ | refine SL.W.store ?_ | refine SL.W.storeA ?_ | (refine SL.W.box ?_; intro b) | (refine SL.W.alloc ?_; intro b) | (refine SL.W.buildSlice ?_; intro b) | (refine SL.W.append ?_; intro a cap) | refine SL.W.bytesToStr ?_ | refine SL.W.pvn (SL.PV.toIntC (by rfl) (by first | exact SL.wrap_i64 (by omega) | exact SL.wrap_u8 (by omega) | exact SL.wrap_u32 (by omega) | exact SL.wrap_u64 (by omega) | rfl)) ?_ | (refine SL.W.makeSlice ?_; intro b)) | (refine SL.W.guardP (fun h => ?_) (fun h => ?_) <;> (fail_if_success (have : h = trivial := rfl)) <;> (fail_if_success (have : h = not_false := rfl)) <;> first | contradiction | (exfalso; omega) | (exfalso; revert h; simp; done) | skip) | (refine SL.W.guardB (fun h => ?_) (fun h => ?_) <;> (fail_if_success (have : h = (rfl : true = true) := rfl)) <;> (fail_if_success (have : h = (rfl : false = false) := rfl)))) | (refine SL.TK.is ?_; first | (refine SL.TK.atR (id := 11) ?_; refine SL.Stop.out ?_) | (refine SL.TK.atG (id := 11) ?_; refine SL.Stop.out ?_) | refine SL.TK.seq ?_ | refine SL.TK.region ?_ | refine SL.TK.regionD SL.mixed (by simp only [SL.falses] <;> rfl) ?_ | refine SL.TK.block ?_ | refine SL.TK.inBlock ?_ | refine SL.TK.skip ?_ | refine SL.TK.scope ?_ | refine SL.TK.inScope ?_ | refine SL.TK.label ?_ | (refine SL.TK.isExit ?_; refine SL.W.exit ?_) | refine SL.W.condT ?_ | refine SL.W.condF ?_ | (refine SL.W.condP (fun h => ?_) (fun h => ?_) <;> (fail_if_success (have : h = trivial := rfl)) <;> (fail_if_success (have : h = not_false := rfl)) <;> first | contradiction | (exfalso; omega) | (exfalso; revert h; simp; done) | skip) | refine SL.W.condB (fun h => ?_) (fun h => ?_)) | (refine SL.TD.is ?_; first | (refine SL.W.dfin ?_; simp only [List.append_nil, List.cons_append, List.nil_append]) | refine SL.W.dpass ?_ | refine SL.W.dpure ?_ | refine SL.W.dload ?_ | refine SL.W.dloadA ?_ | refine SL.W.dfrz ?_ | (refine SL.W.dthaw ?_; simp only [List.append_nil, List.cons_append, List.nil_append]) | (refine SL.W.dguardP (fun h => ?_) (fun h => ?_) <;> (fail_if_success (have : h = trivial := rfl)) <;> (fail_if_success (have : h = not_false := rfl)) <;> first | contradiction | (exfalso; omega) | (exfalso; revert h; simp; done) | skip) | (refine SL.W.dguardB (fun h => ?_) (fun h => ?_) <;> (fail_if_success (have : h = (rfl : true = true) := rfl)) <;> (fail_if_success (have : h = (rfl : false = false) := rfl))) | refine SL.W.done ?_ | refine SL.W.dtwo ?_ ?_ | refine SL.W.dthree ?_ ?_ ?_))
  all_goals
    refine Stop.mk ?_
    refine SL.TK.openGr (by first | ((repeat (first | exact SL.Pick.head | apply SL.Pick.tail)); done) | fail) (fun lp lc M mm bc ba ex bs g hM hb hm => ?_)
    rw [lsF_len] at hM
    subst hM
    have e75' := e75 mm hm
    refine SL.TK.ownPos (e := 85) (sz := 21) (a := ba) (m := mm) (by first | ((repeat (first | exact SL.Pick.head | apply SL.Pick.tail)); done) | fail) (by omega) (fun bb bex ea e1 e2 e3 => ?_)
    subst ea
    have hBl := hb.len
    obtain ⟨hct1, hct2⟩ := bag_cuts (ex := bex) (k := k) (M := mm) e1 (by omega)
    obtain ⟨am, cm, hct0, hrg⟩ := hb.at hkl
    have hbk2 : bag[k] = (t, m) := by have := hbkH.out; rw [List.getElem?_eq_getElem hkl] at this; simpa using this
    rw [hbk2] at hct0 hrg
    have hct := Cut.app hct0 bex
    have hone := hb.one
    have ho1 : ∀ v ∈ bs.take (k * 21), v.oneCell' = true := fun v hv => hone v (List.mem_of_mem_take hv)
    have ho2 : ∀ v ∈ bs.drop ((k + 1) * 21), v.oneCell' = true := fun v hv => hone v (List.mem_of_mem_drop hv)
    have hsh1 : Hid (∀ hh, seps [SL.blk gb 77 [.slice (some ⟨lp, 0, none⟩) M lc, .slice (some ⟨bb, 0, none⟩) mm bc], SL.blk lp 87 ((lsF M ps f).map ptrV ++ ex), CosAt (lsF M ps f), own 85 21 (some ⟨bb, 0, none⟩) mm bc bs, RO g] hh → GroupX gb (lsF M ps f) bag am m.e.2.2.2 hh) := Lib.hid fun hh x => gx_shut (by rw [lsF_len]) hb hm hrg hh x
    have hsh2 : Hid (∀ oa oc, ∀ hh, seps [SL.blk gb 77 [.slice (some ⟨lp, 0, none⟩) M lc, .slice oa (k + (mm - (k + 1)) : Nat) oc], SL.blk lp 87 ((lsF M ps f).map ptrV ++ ex), CosAt (lsF M ps f), own 85 21 oa (k + (mm - (k + 1))) oc (bs.take (k * 21) ++ bs.drop ((k + 1) * 21)), RO g] hh → GroupX gb (lsF M ps f) rst am m.e.2.2.2 hh) := Lib.hid fun oa oc hh x =>
      gx_shut (by rw [lsF_len]) (by rw [hrsH.out]; exact (hb.take k).append (hb.drop (k + 1))) (by rw [hlr, hm]) hrg hh x
    have hE := Lib.hid (And.intro e1 (And.intro e2 e3))
    obtain ⟨pl, hpl⟩ : ∃ pl, pl = (lsF M ps f).map ptrV ++ ex := ⟨_, rfl⟩
    rw [← hpl] at hsh1 hsh2 ⊢
    obtain ⟨cs, hcs⟩ : ∃ cs, cs = bs ++ bex := ⟨_, rfl⟩
    rw [← hcs] at hct hct1 hct2 ⊢
    have hcs := Lib.hid hcs
    obtain ⟨u1, hu1⟩ : ∃ u, u = bs.take (k * 21) := ⟨_, rfl⟩
    obtain ⟨u2, hu2⟩ : ∃ u, u = bs.drop ((k + 1) * 21) := ⟨_, rfl⟩
    rw [← hu1] at hct1 ho1 hsh2
    rw [← hu2] at hct2 ho2 hsh2
    have hkm : k < mm := by omega
    have hmm : mm ≤ 1000000 := by omega
    have hmbc : mm ≤ bc := e3
    clear hb e1 e2 e3 hct0 hrg hbk2 hone hpl hu1 hu2 hBl e75 hlr hpr hp
    repeat' (first | (refine SL.TO.is ?_; first | (refine SL.W.quick ?_; first | refine SL.W.pass ?_ | refine SL.W.pv ?_ | refine SL.W.pv0 ?_) | (refine SL.TO.door (o := ⟨_, .call _, _, _, _, _⟩) ?_; first | (refine SL.TO.door (o := ⟨_, .call ⟨.builtin .append, _, _⟩, _, _, _, _⟩) ?_; first | (refine SL.W.append (hs := Src.blk (by first | ((repeat (first | exact SL.Pick.head | apply SL.Pick.tail)); done) | fail) hct1) ?_; intro oa oc) | (refine SL.W.append (hs := Src.sl (by first | ((repeat (first | exact SL.Pick.head | apply SL.Pick.tail)); done) | fail) (by omega) (by omega) hct2) ?_; intro oa2 oc2))) | (refine SL.TO.door (o := ⟨_, .load _ _, _, _, _, _⟩) ?_; first | refine SL.W.loadAN hct ?_) | refine SL.TO.nil ?_ | (refine SL.TO.nilD ?_; simp only [SL.setB]) | refine SL.W.pass ?_ | refine SL.W.pass0 ?_ | (refine SL.W.pure ?_; first | refine SL.W.pv ?_ | refine SL.W.pv0 ?_) | (refine SL.W.loud ?_; first | refine SL.W.load ?_ | refine SL.W.loadA ?_ | refine SL.W.store ?_ | refine SL.W.storeA ?_ | (refine SL.W.box ?_; intro b) | (refine SL.W.alloc ?_; intro b) | (refine SL.W.buildSlice ?_; intro b) | (refine SL.W.append ?_; intro a cap) | refine SL.W.bytesToStr ?_ | refine SL.W.pvn (SL.PV.toIntC (by rfl) (by first | exact SL.wrap_i64 (by omega) | exact SL.wrap_u8 (by omega) | exact SL.wrap_u32 (by omega) | exact SL.wrap_u64 (by omega) | rfl)) ?_ | (refine SL.W.makeSlice ?_; intro b)) | (refine SL.W.guardP (fun h => ?_) (fun h => ?_) <;> (fail_if_success (have : h = trivial := rfl)) <;> (fail_if_success (have : h = not_false := rfl)) <;> first | contradiction | (exfalso; omega) | (exfalso; revert h; simp; done) | skip) | (refine SL.W.guardB (fun h => ?_) (fun h => ?_) <;> (fail_if_success (have : h = (rfl : true = true) := rfl)) <;> (fail_if_success (have : h = (rfl : false = false) := rfl)))) | (refine SL.TK.is ?_; first | (refine SL.TK.atR (id := 17) ?_; refine SL.Stop.out ?_) | (refine SL.TK.atG (id := 17) ?_; refine SL.Stop.out ?_) | refine SL.TK.seq ?_ | refine SL.TK.region ?_ | refine SL.TK.regionD SL.mixed (by simp only [SL.falses] <;> rfl) ?_ | refine SL.TK.block ?_ | refine SL.TK.inBlock ?_ | refine SL.TK.skip ?_ | refine SL.TK.scope ?_ | refine SL.TK.inScope ?_ | refine SL.TK.label ?_ | (refine SL.TK.isExit ?_; refine SL.W.exit ?_) | refine SL.W.condT ?_ | refine SL.W.condF ?_ | (refine SL.W.condP (fun h => ?_) (fun h => ?_) <;> (fail_if_success (have : h = trivial := rfl)) <;> (fail_if_success (have : h = not_false := rfl)) <;> first | contradiction | (exfalso; omega) | (exfalso; revert h; simp; done) | skip) | refine SL.W.condB (fun h => ?_) (fun h => ?_)) | (refine SL.TD.is ?_; first | refine SL.TD.slot (d := 75) (by rfl) e75' ?_ | (refine SL.W.dfin ?_; simp only [List.append_nil, List.cons_append, List.nil_append]) | refine SL.W.dpass ?_ | refine SL.W.dpure ?_ | refine SL.W.dload ?_ | refine SL.W.dloadA ?_ | refine SL.W.dfrz ?_ | (refine SL.W.dthaw ?_; simp only [List.append_nil, List.cons_append, List.nil_append]) | (refine SL.W.dguardP (fun h => ?_) (fun h => ?_) <;> (fail_if_success (have : h = trivial := rfl)) <;> (fail_if_success (have : h = not_false := rfl)) <;> first | contradiction | (exfalso; omega) | (exfalso; revert h; simp; done) | skip) | (refine SL.W.dguardB (fun h => ?_) (fun h => ?_) <;> (fail_if_success (have : h = (rfl : true = true) := rfl)) <;> (fail_if_success (have : h = (rfl : false = false) := rfl))) | refine SL.W.done ?_ | refine SL.W.dtwo ?_ ?_ | refine SL.W.dthree ?_ ?_ ?_))
    all_goals
      refine Stop.mk ?_
      first
        | refine SL.TK.entD (EntD.frm (q := GroupX gb (lsF M ps f) rst am m.e.2.2.2) (pre := [SL.blk gb 77 [.slice (some ⟨lp, 0, none⟩) M lc, .slice oa2 (k + (mm - (k + 1)) : Nat) oc2], SL.blk lp 87 pl, CosAt (lsF M ps f), own 85 21 oa2 (k + (mm - (k + 1))) oc2 (u1 ++ u2), RO g]) (by first | ((repeat (first | exact SL.Frm.nil | exact SL.Frm.refl | (apply SL.Frm.cons; repeat (first | exact SL.Pick.head | apply SL.Pick.tail)))); done) | fail) (hsh2.out oa2 oc2) EntD.refl) ?_
        | refine SL.TK.entD (EntD.trans (EntD.of_ent (Ent.own_blk (e := 85) (sz := 21) (b := bb) (cs := bs) (extra := bex) (by first | ((repeat (first | exact SL.Pick.head | apply SL.Pick.tail)); done) | fail) hcs.out hE.out.1 hE.out.2.1 hE.out.2.2 Ent.refl)) (EntD.frm (q := GroupX gb (lsF M ps f) bag am m.e.2.2.2) (pre := [SL.blk gb 77 [.slice (some ⟨lp, 0, none⟩) M lc, .slice (some ⟨bb, 0, none⟩) mm bc], SL.blk lp 87 pl, CosAt (lsF M ps f), own 85 21 (some ⟨bb, 0, none⟩) mm bc bs, RO g]) (by first | ((repeat (first | exact SL.Frm.nil | exact SL.Frm.refl | (apply SL.Frm.cons; repeat (first | exact SL.Pick.head | apply SL.Pick.tail)))); done) | fail) hsh1.out EntD.refl)) ?_
      clear hct hct1 hct2 ho1 ho2 hsh1 hsh2
      rcases hw with rfl | rfl | rfl
      · first
          | (exfalso; omega)
          | rw [if_neg (by omega), if_neg (by omega)]
        repeat' (first | (refine SL.TO.is ?_; first | (refine SL.W.quick ?_; first | refine SL.W.pass ?_ | refine SL.W.pv ?_ | refine SL.W.pv0 ?_) | (refine SL.TO.door (o := ⟨_, .call _, _, _, _, _⟩) ?_; first | (refine SL.TO.door (o := ⟨_, .call ⟨.value (.func 39), _, _⟩, _, _, _, _⟩) ?_; first | (first | (refine SL.W.call (hc1.out _ _) ?_; rintro _ _ ⟨rfl, rfl⟩; try simp only [List.cons_append, List.nil_append]) | (refine SL.W.call (hc2.out _ _) ?_; rintro _ _ ⟨rfl, rfl⟩; try simp only [List.cons_append, List.nil_append])))) | refine SL.TO.nil ?_ | (refine SL.TO.nilD ?_; simp only [SL.setB]) | refine SL.W.pass ?_ | refine SL.W.pass0 ?_ | (refine SL.W.pure ?_; first | refine SL.W.pv ?_ | refine SL.W.pv0 ?_) | (refine SL.W.loud ?_; first | refine SL.W.load ?_ | refine SL.W.loadA ?_ | refine SL.W.store ?_ | refine SL.W.storeA ?_ | (refine SL.W.box ?_; intro b) | (refine SL.W.alloc ?_; intro b) | (refine SL.W.buildSlice ?_; intro b) | (refine SL.W.append ?_; intro a cap) | refine SL.W.bytesToStr ?_ | refine SL.W.pvn (SL.PV.toIntC (by rfl) (by first | exact SL.wrap_i64 (by omega) | exact SL.wrap_u8 (by omega) | exact SL.wrap_u32 (by omega) | exact SL.wrap_u64 (by omega) | rfl)) ?_ | (refine SL.W.makeSlice ?_; intro b)) | (refine SL.W.guardP (fun h => ?_) (fun h => ?_) <;> (fail_if_success (have : h = trivial := rfl)) <;> (fail_if_success (have : h = not_false := rfl)) <;> first | contradiction | (exfalso; omega) | (exfalso; revert h; simp; done) | skip) | (refine SL.W.guardB (fun h => ?_) (fun h => ?_) <;> (fail_if_success (have : h = (rfl : true = true) := rfl)) <;> (fail_if_success (have : h = (rfl : false = false) := rfl)))) | (refine SL.TK.is ?_; first | refine SL.TK.seq ?_ | refine SL.TK.region ?_ | refine SL.TK.regionD SL.mixed (by simp only [SL.falses] <;> rfl) ?_ | refine SL.TK.block ?_ | refine SL.TK.inBlock ?_ | refine SL.TK.skip ?_ | refine SL.TK.scope ?_ | refine SL.TK.inScope ?_ | refine SL.TK.label ?_ | (refine SL.TK.isExit ?_; refine SL.W.exit ?_) | refine SL.W.condT ?_ | refine SL.W.condF ?_ | (refine SL.W.condP (fun h => ?_) (fun h => ?_) <;> (fail_if_success (have : h = trivial := rfl)) <;> (fail_if_success (have : h = not_false := rfl)) <;> first | contradiction | (exfalso; omega) | (exfalso; revert h; simp; done) | skip) | refine SL.W.condB (fun h => ?_) (fun h => ?_)) | (refine SL.TD.is ?_; first | (refine SL.W.dfin ?_; simp only [List.append_nil, List.cons_append, List.nil_append]) | refine SL.W.dpass ?_ | refine SL.W.dpure ?_ | refine SL.W.dload ?_ | refine SL.W.dloadA ?_ | refine SL.W.dfrz ?_ | (refine SL.W.dthaw ?_; simp only [List.append_nil, List.cons_append, List.nil_append]) | (refine SL.W.dguardP (fun h => ?_) (fun h => ?_) <;> (fail_if_success (have : h = trivial := rfl)) <;> (fail_if_success (have : h = not_false := rfl)) <;> first | contradiction | (exfalso; omega) | (exfalso; revert h; simp; done) | skip) | (refine SL.W.dguardB (fun h => ?_) (fun h => ?_) <;> (fail_if_success (have : h = (rfl : true = true) := rfl)) <;> (fail_if_success (have : h = (rfl : false = false) := rfl))) | refine SL.W.done ?_ | refine SL.W.dtwo ?_ ?_ | refine SL.W.dthree ?_ ?_ ?_))
        all_goals exact SL.TK.retD Try.func38 (SL.Res.one rfl (by rfl)) ⟨rfl, rfl⟩ (EntD.cons (by first | ((repeat (first | exact SL.Pick.head | apply SL.Pick.tail)); done) | fail) EntD.nil)
      · first
          | (exfalso; omega)
          | rw [if_neg (by omega), if_pos rfl]
        all_goals repeat' (first | (refine SL.TO.is ?_; first | (refine SL.W.quick ?_; first | refine SL.W.pass ?_ | refine SL.W.pv ?_ | refine SL.W.pv0 ?_) | (refine SL.TO.door (o := ⟨_, .call _, _, _, _, _⟩) ?_; first | (refine SL.TO.door (o := ⟨_, .call ⟨.value (.func 39), _, _⟩, _, _, _, _⟩) ?_; first | (first | (refine SL.W.call (hc1.out _ _) ?_; rintro _ _ ⟨rfl, rfl⟩; try simp only [List.cons_append, List.nil_append]) | (refine SL.W.call (hc2.out _ _) ?_; rintro _ _ ⟨rfl, rfl⟩; try simp only [List.cons_append, List.nil_append])))) | refine SL.TO.nil ?_ | (refine SL.TO.nilD ?_; simp only [SL.setB]) | refine SL.W.pass ?_ | refine SL.W.pass0 ?_ | (refine SL.W.pure ?_; first | refine SL.W.pv ?_ | refine SL.W.pv0 ?_) | (refine SL.W.loud ?_; first | refine SL.W.load ?_ | refine SL.W.loadA ?_ | refine SL.W.store ?_ | refine SL.W.storeA ?_ | (refine SL.W.box ?_; intro b) | (refine SL.W.alloc ?_; intro b) | (refine SL.W.buildSlice ?_; intro b) | (refine SL.W.append ?_; intro a cap) | refine SL.W.bytesToStr ?_ | refine SL.W.pvn (SL.PV.toIntC (by rfl) (by first | exact SL.wrap_i64 (by omega) | exact SL.wrap_u8 (by omega) | exact SL.wrap_u32 (by omega) | exact SL.wrap_u64 (by omega) | rfl)) ?_ | (refine SL.W.makeSlice ?_; intro b)) | (refine SL.W.guardP (fun h => ?_) (fun h => ?_) <;> (fail_if_success (have : h = trivial := rfl)) <;> (fail_if_success (have : h = not_false := rfl)) <;> first | contradiction | (exfalso; omega) | (exfalso; revert h; simp; done) | skip) | (refine SL.W.guardB (fun h => ?_) (fun h => ?_) <;> (fail_if_success (have : h = (rfl : true = true) := rfl)) <;> (fail_if_success (have : h = (rfl : false = false) := rfl)))) | (refine SL.TK.is ?_; first | refine SL.TK.seq ?_ | refine SL.TK.region ?_ | refine SL.TK.regionD SL.mixed (by simp only [SL.falses] <;> rfl) ?_ | refine SL.TK.block ?_ | refine SL.TK.inBlock ?_ | refine SL.TK.skip ?_ | refine SL.TK.scope ?_ | refine SL.TK.inScope ?_ | refine SL.TK.label ?_ | (refine SL.TK.isExit ?_; refine SL.W.exit ?_) | refine SL.W.condT ?_ | refine SL.W.condF ?_ | (refine SL.W.condP (fun h => ?_) (fun h => ?_) <;> (fail_if_success (have : h = trivial := rfl)) <;> (fail_if_success (have : h = not_false := rfl)) <;> first | contradiction | (exfalso; omega) | (exfalso; revert h; simp; done) | skip) | refine SL.W.condB (fun h => ?_) (fun h => ?_)) | (refine SL.TD.is ?_; first | (refine SL.W.dfin ?_; simp only [List.append_nil, List.cons_append, List.nil_append]) | refine SL.W.dpass ?_ | refine SL.W.dpure ?_ | refine SL.W.dload ?_ | refine SL.W.dloadA ?_ | refine SL.W.dfrz ?_ | (refine SL.W.dthaw ?_; simp only [List.append_nil, List.cons_append, List.nil_append]) | (refine SL.W.dguardP (fun h => ?_) (fun h => ?_) <;> (fail_if_success (have : h = trivial := rfl)) <;> (fail_if_success (have : h = not_false := rfl)) <;> first | contradiction | (exfalso; omega) | (exfalso; revert h; simp; done) | skip) | (refine SL.W.dguardB (fun h => ?_) (fun h => ?_) <;> (fail_if_success (have : h = (rfl : true = true) := rfl)) <;> (fail_if_success (have : h = (rfl : false = false) := rfl))) | refine SL.W.done ?_ | refine SL.W.dtwo ?_ ?_ | refine SL.W.dthree ?_ ?_ ?_))
        all_goals exact SL.TK.retD Try.func38 (SL.Res.one rfl (by rfl)) ⟨rfl, rfl⟩ (EntD.cons (by first | ((repeat (first | exact SL.Pick.head | apply SL.Pick.tail)); done) | fail) EntD.nil)
      · first
          | (exfalso; omega)
          | rw [if_pos rfl]
        all_goals repeat' (first | (refine SL.TO.is ?_; first | (refine SL.W.quick ?_; first | refine SL.W.pass ?_ | refine SL.W.pv ?_ | refine SL.W.pv0 ?_) | (refine SL.TO.door (o := ⟨_, .call _, _, _, _, _⟩) ?_; first | (refine SL.TO.door (o := ⟨_, .call ⟨.value (.func 39), _, _⟩, _, _, _, _⟩) ?_; first | (refine SL.W.call (hc1.out _ _) ?_; rintro _ _ ⟨rfl, rfl⟩; try simp only [List.cons_append, List.nil_append]))) | refine SL.TO.nil ?_ | (refine SL.TO.nilD ?_; simp only [SL.setB]) | refine SL.W.pass ?_ | refine SL.W.pass0 ?_ | (refine SL.W.pure ?_; first | (refine SL.TO.door (o := ⟨_, .binOp _ _ _ _ _, _, _, _, _⟩) ?_; first | (refine SL.TO.door (o := ⟨_, .binOp .eql _ _ _ _, _, _, _, _⟩) ?_; refine SL.W.pvn (SL.PV.eqIT (by rfl) (by rfl) (by omega)) ?_)) | refine SL.W.pv ?_ | refine SL.W.pv0 ?_) | (refine SL.W.loud ?_; first | refine SL.W.load ?_ | refine SL.W.loadA ?_ | refine SL.W.store ?_ | refine SL.W.storeA ?_ | (refine SL.W.box ?_; intro b) | (refine SL.W.alloc ?_; intro b) | (refine SL.W.buildSlice ?_; intro b) | (refine SL.W.append ?_; intro a cap) | refine SL.W.bytesToStr ?_ | refine SL.W.pvn (SL.PV.toIntC (by rfl) (by first | exact SL.wrap_i64 (by omega) | exact SL.wrap_u8 (by omega) | exact SL.wrap_u32 (by omega) | exact SL.wrap_u64 (by omega) | rfl)) ?_ | (refine SL.W.makeSlice ?_; intro b)) | (refine SL.W.guardP (fun h => ?_) (fun h => ?_) <;> (fail_if_success (have : h = trivial := rfl)) <;> (fail_if_success (have : h = not_false := rfl)) <;> first | contradiction | (exfalso; omega) | (exfalso; revert h; simp; done) | skip) | (refine SL.W.guardB (fun h => ?_) (fun h => ?_) <;> (fail_if_success (have : h = (rfl : true = true) := rfl)) <;> (fail_if_success (have : h = (rfl : false = false) := rfl)))) | (refine SL.TK.is ?_; first | refine SL.TK.seq ?_ | refine SL.TK.region ?_ | refine SL.TK.regionD SL.mixed (by simp only [SL.falses] <;> rfl) ?_ | refine SL.TK.block ?_ | refine SL.TK.inBlock ?_ | refine SL.TK.skip ?_ | refine SL.TK.scope ?_ | refine SL.TK.inScope ?_ | refine SL.TK.label ?_ | (refine SL.TK.isExit ?_; refine SL.W.exit ?_) | refine SL.W.condT ?_ | refine SL.W.condF ?_ | (refine SL.W.condP (fun h => ?_) (fun h => ?_) <;> (fail_if_success (have : h = trivial := rfl)) <;> (fail_if_success (have : h = not_false := rfl)) <;> first | contradiction | (exfalso; omega) | (exfalso; revert h; simp; done) | skip) | refine SL.W.condB (fun h => ?_) (fun h => ?_)) | (refine SL.TD.is ?_; first | (refine SL.W.dfin ?_; simp only [List.append_nil, List.cons_append, List.nil_append]) | refine SL.W.dpass ?_ | refine SL.W.dpure ?_ | refine SL.W.dload ?_ | refine SL.W.dloadA ?_ | refine SL.W.dfrz ?_ | (refine SL.W.dthaw ?_; simp only [List.append_nil, List.cons_append, List.nil_append]) | (refine SL.W.dguardP (fun h => ?_) (fun h => ?_) <;> (fail_if_success (have : h = trivial := rfl)) <;> (fail_if_success (have : h = not_false := rfl)) <;> first | contradiction | (exfalso; omega) | (exfalso; revert h; simp; done) | skip) | (refine SL.W.dguardB (fun h => ?_) (fun h => ?_) <;> (fail_if_success (have : h = (rfl : true = true) := rfl)) <;> (fail_if_success (have : h = (rfl : false = false) := rfl))) | refine SL.W.done ?_ | refine SL.W.dtwo ?_ ?_ | refine SL.W.dthree ?_ ?_ ?_))
        all_goals exact SL.TK.retD Try.func38 (SL.Res.one rfl (by rfl)) ⟨rfl, rfl⟩ (EntD.frm (pre := [GroupX gb (lsF M ps f) rst am m.e.2.2.2]) (by first | ((repeat (first | exact SL.Frm.nil | exact SL.Frm.refl | (apply SL.Frm.cons; repeat (first | exact SL.Pick.head | apply SL.Pick.tail)))); done) | fail) gx_out EntD.nil)
theorem does_spec {n v p : Nat} {f : Nat → Cs} {bag : List (Nat × Mg)} (gb : Nat) (ps : Nat → Nat) (h : GInv n v p f bag) (hbag : bag.length ≤ 1000000) (what : Int) (N : Nat) (hN : N ≤ 65535) :
    Spec Try.prog 38 [.pointer (some ⟨gb, 0, none⟩), .agg [.int .i64 what, .int .u16 (N : Int)].toArray] [GroupAt gb (lsF n ps f) bag]
    (fun r L => r = .bool true ∧ L = [GroupAt gb (lsF n ps (doesR n p f bag what N).1) (doesR n p f bag what N).2]) := by
  unfold doesR
  by_cases h0 : what = 0
  · subst h0
    rw [if_pos rfl]
    exact does_0 gb ps h hbag N hN
  · rw [if_neg h0]
    by_cases h3 : what = 1 ∨ what = 2 ∨ what = 3
    · rw [if_pos h3]
      by_cases hb : bag = []
      · subst hb
        exact does_no gb ps h what (.inr (.inr ⟨h3, rfl⟩)) N
      · have hl : 0 < bag.length := List.length_pos_iff.2 hb
        have hk : N % bag.length < bag.length := Nat.mod_lt _ hl
        obtain ⟨t, m, hm⟩ : ∃ t m, bag[N % bag.length]? = some (t, m) := ⟨_, _, List.getElem?_eq_getElem hk⟩
        have := does_m gb ps h hbag what h3 N hN (N % bag.length) t m rfl hl hm
        rw [hm]
        exact this
    · rw [if_neg h3]
      by_cases h4 : what = 4
      · subst h4
        rw [if_pos rfl]
        exact does_4 gb ps h hbag N
      · rw [if_neg h4]
        exact does_no gb ps h what (by omega) N
end SL
