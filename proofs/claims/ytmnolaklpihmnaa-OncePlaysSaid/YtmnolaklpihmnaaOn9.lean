/-
  Contract of a table's Copy.
-/
import Derived.Test.YtmnolaklpihmnaaOn8
set_option linter.unusedVariables false
set_option linter.unusedSimpArgs false
set_option maxRecDepth 10000
namespace SL
open Go Go.Proofs Go.RowKit
theorem get_of_mem {q : Int} {v : Value} : ∀ {l : List (Int × Value)}, (l.map (·.1)).Nodup → (q, v) ∈ l → get q l = some v
  | [], _, h => by simp at h
  | p :: l, hn, h => by
    simp only [List.map_cons, List.nodup_cons] at hn
    simp only [get]
    rcases List.mem_cons.1 h with h | h
    · subst h; simp
    · rw [if_neg (fun e => hn.1 (by rw [e]; exact List.mem_map.2 ⟨_, h, rfl⟩))]
      exact get_of_mem hn.2 h
theorem Tv.of_mem {g : Hp} {l : List (Int × Value)} {T : OT} (h : Tv g l T) (hn : (l.map (·.1)).Nodup) {q : Int} {v : Value} (hm : (q, v) ∈ l) :
    ∃ n bs a c, v = .agg [.int .u64 ((n : Nat) : Int), .slice a bs.length c].toArray ∧ olk q T = some (n, bs) ∧ RdG g a (bs.map byteV) ∧ bs.length ≤ c := by
  have hk := (h.keys q).1 (List.mem_map.2 ⟨_, hm, rfl⟩)
  cases hq : olk q T with
  | none => exact absurd hk (olk_none.1 hq)
  | some ov =>
    obtain ⟨a, c, h1, h2, h3⟩ := h.val q ov hq
    rw [get_of_mem hn hm] at h1
    simp only [Option.some.injEq] at h1
    exact ⟨ov.1, ov.2, a, c, h1, rfl, h2, h3⟩
structure Td (g : Hp) (l : List (Int × Value)) (T : OT) (done : List Int) : Prop where
  keys : ∀ q, q ∈ l.map (·.1) ↔ q ∈ done
  val : ∀ q v, q ∈ done → olk q T = some v → ∃ a c, get q l = some (VO v a c) ∧ RdG g a (v.2.map byteV) ∧ v.2.length ≤ c
theorem Td.ins {g g' : Hp} {l : List (Int × Value)} {T : OT} {done : List Int} (h : Td g l T done) (hg : HLe g g') {q : Int} {v : OV} (hq : olk q T = some v) {a : Option Addr} {c : Nat} (hr : RdG g' a (v.2.map byteV)) (hc : v.2.length ≤ c) :
    Td g' (upd q (VO v a c) l) T (q :: done) := by
  refine ⟨fun x => by rw [upd_keys, h.keys, List.mem_cons], fun x w hx e => ?_⟩
  rw [get_upd]
  by_cases hqx : q = x
  · subst hqx
    rw [hq] at e
    simp at e
    subst e
    exact ⟨a, c, by rw [if_pos rfl], hr, hc⟩
  · rw [if_neg hqx]
    rcases List.mem_cons.1 hx with hx | hx
    · exact absurd hx.symm hqx
    · obtain ⟨a', c', h1, h2, h3⟩ := h.val x w hx e
      exact ⟨a', c', h1, h2.le hg, h3⟩
attribute [local irreducible] SL.TK SL.TO SL.TD SL.PV SL.Pick SL.Frm SL.Ent SL.Sub SL.EvAll SL.seps SL.sep SL.Cut SL.PutAt SL.blk SL.EvP SL.Fill SL.Src SL.EntD SL.own SL.ex SL.fact SL.orig
def cpI (tb tb2 mb mb2 it : Nat) (l : List (Int × Value)) (g : Hp) (T : OT) (ρ : Env) (L : List HProp) (m : Nat) : Prop := ∃ (done : List Int) (l2 : List (Int × Value)) (g2 : Hp), (∀ q ∈ done, q ∈ l.map (·.1)) ∧ Td g2 l2 T done ∧
  ρ = [(3, .pointer (some ⟨tb2, 0, none⟩)), (13, .pointer (some ⟨it, 0, none⟩))] ∧
  L = [SL.blk tb 56 [.map (some mb)], mpI (Value.int .u32) mb l (some (it, done)), RO g, SL.blk tb2 56 [.map (some mb2)], mp (Value.int .u32) mb2 l2, RO g2] ∧ m = l.countP (fun p => !done.contains p.1)
theorem tCopy_spec (tb : Nat) (T : OT) (hT : TOk T) : Spec Try.prog 17 [.pointer (some ⟨tb, 0, none⟩)] [TbAt tb T]
    (fun r L => ∃ tb2, r = .pointer (some ⟨tb2, 0, none⟩) ∧ L = [TbAt tb T, TbAt tb2 T]) := by
  have hnew := Lib.hid tNew_spec
  have hall := Lib.hid fun (q : Int) (v : OV) (h : olk q T = some v) => hT.lk h
  refine SL.Spec.of_TK Go.Proofs.Try.func17 rfl rfl SL.call17 rfl ?_
  refine SL.TK.openTb (by first | ((repeat (first | exact SL.Pick.head | apply SL.Pick.tail)); done) | fail) (fun mb l g hv hn => ?_)
  have hV := Lib.hid hv
  have hM := Lib.hid fun (q : Int) (v : Value) (hm : (q, v) ∈ l) => hv.of_mem hn hm
  clear hv hn hT
  repeat' (first | (refine SL.TO.is ?_; first | (refine SL.TO.door (o := ⟨_, .call ⟨.value (.func 23), _, _⟩, _, _, _, _⟩) ?_; first | (refine SL.W.call (tNone_spec _ _) ?_; rintro _ _ ⟨rfl, rfl⟩; try simp only [List.cons_append, List.nil_append])) | (refine SL.TO.door (o := ⟨_, .call ⟨.value (.func 8), _, _⟩, _, _, _, _⟩) ?_; first | ((refine SL.W.call (hnew.out) ?_; rintro _ _ ⟨tb2, rfl, rfl⟩; try simp only [List.cons_append, List.nil_append]); clear hnew)) | refine SL.TO.nil ?_ | (refine SL.TO.nilD ?_; simp only [SL.setB]) | refine SL.W.pass ?_ | refine SL.W.pass0 ?_ | (refine SL.W.pure ?_; first | refine SL.W.pv ?_ | refine SL.W.pv0 ?_ | refine SL.W.lenMp ?_) | (refine SL.W.loud ?_; first | refine SL.W.load ?_ | refine SL.W.loadA ?_ | refine SL.W.store ?_ | refine SL.W.storeA ?_ | (refine SL.W.box ?_; intro b) | (refine SL.W.alloc ?_; intro b) | (refine SL.W.buildSlice ?_; intro b) | (refine SL.W.append ?_; intro a cap) | refine SL.W.bytesToStr ?_ | refine SL.W.pvn (SL.PV.toIntC (by rfl) (by first | exact SL.wrap_i64 (by omega) | exact SL.wrap_u8 (by omega) | exact SL.wrap_u32 (by omega) | exact SL.wrap_u64 (by omega) | rfl)) ?_ | (refine SL.W.makeSlice ?_; intro b) | refine SL.W.lookupOk ?_ | refine SL.W.lookup ?_ | (refine SL.W.makeMap ?_; intro b) | refine SL.W.mapUpdate ?_ | (refine SL.W.mapEntry ?_; intro stamp) | refine SL.W.entryStore ?_ | (refine SL.W.range ?_; intro it) | refine SL.W.delete ?_) | (refine SL.W.guardP (fun h => ?_) (fun h => ?_) <;> (fail_if_success (have : h = trivial := rfl)) <;> (fail_if_success (have : h = not_false := rfl)) <;> first | contradiction | (exfalso; omega) | (exfalso; revert h; simp; done) | skip) | (refine SL.W.guardB (fun h => ?_) (fun h => ?_) <;> (fail_if_success (have : h = (rfl : true = true) := rfl)) <;> (fail_if_success (have : h = (rfl : false = false) := rfl)))) | (refine SL.TK.lp ?_; first | (refine SL.TK.block ?_; refine SL.TK.loopD (cpI tb tb2 mb mb2 it l g T) ?_ ⟨[], l2, g2, by simp, ⟨fun q => by rw [hv2.keys q]; simp, fun q v h => by simp at h⟩, rfl, rfl, rfl⟩ (by first | ((repeat (first | exact SL.Sub.nil | refine SL.Sub.cons (by rfl) (by first | rfl | exact SL.int_eq (by omega)) ?_)); done) | fail) (EntD.cons (by first | ((repeat (first | exact SL.Pick.head | apply SL.Pick.tail)); done) | fail) (EntD.cons (by first | ((repeat (first | exact SL.Pick.head | apply SL.Pick.tail)); done) | fail) (EntD.cons (by first | ((repeat (first | exact SL.Pick.head | apply SL.Pick.tail)); done) | fail) (EntD.cons (by first | ((repeat (first | exact SL.Pick.head | apply SL.Pick.tail)); done) | fail) (EntD.cons (by first | ((repeat (first | exact SL.Pick.head | apply SL.Pick.tail)); done) | fail) (EntD.cons (by first | ((repeat (first | exact SL.Pick.head | apply SL.Pick.tail)); done) | fail) EntD.nil)))))))) | (refine SL.TK.is ?_; first | ((fail_if_success have := hnew); refine SL.TK.openTb (by first | ((repeat (first | exact SL.Pick.head | apply SL.Pick.tail)); done) | fail) (fun mb2 l2 g2 hv2 hn2 => ?_)) | refine SL.TK.seq ?_ | refine SL.TK.region ?_ | refine SL.TK.regionD SL.mixed (by simp only [SL.falses] <;> rfl) ?_ | refine SL.TK.block ?_ | refine SL.TK.inBlock ?_ | refine SL.TK.skip ?_ | refine SL.TK.scope ?_ | refine SL.TK.inScope ?_ | refine SL.TK.label ?_ | refine SL.W.exit ?_ | refine SL.W.condT ?_ | refine SL.W.condF ?_ | (refine SL.W.condP (fun h => ?_) (fun h => ?_) <;> (fail_if_success (have : h = trivial := rfl)) <;> (fail_if_success (have : h = not_false := rfl)) <;> first | contradiction | (exfalso; omega) | (exfalso; revert h; simp; done) | skip) | refine SL.W.condB (fun h => ?_) (fun h => ?_)) | (refine SL.TD.is ?_; first | (refine SL.W.dfin ?_; simp only [List.append_nil, List.cons_append, List.nil_append]) | refine SL.W.dpass ?_ | refine SL.W.dpure ?_ | refine SL.W.dload ?_ | refine SL.W.dloadA ?_ | refine SL.W.dfrz ?_ | (refine SL.W.dthaw ?_; simp only [List.append_nil, List.cons_append, List.nil_append]) | (refine SL.W.dguardP (fun h => ?_) (fun h => ?_) <;> (fail_if_success (have : h = trivial := rfl)) <;> (fail_if_success (have : h = not_false := rfl)) <;> first | contradiction | (exfalso; omega) | (exfalso; revert h; simp; done) | skip) | (refine SL.W.dguardB (fun h => ?_) (fun h => ?_) <;> (fail_if_success (have : h = (rfl : true = true) := rfl)) <;> (fail_if_success (have : h = (rfl : false = false) := rfl))) | refine SL.W.done ?_ | refine SL.W.dtwo ?_ ?_ | refine SL.W.dthree ?_ ?_ ?_))
  clear hv2 hn2
  rintro ρ L m ⟨done, l2', g2', hin, htd, rfl, rfl, rfl⟩ ih
  have hI := Lib.hid hin
  have hTD := Lib.hid htd
  clear hin htd
  repeat' (first | (intro q v hqv hqd; obtain ⟨n, bs, a3, c3, rfl, hov, hr, hc3⟩ := hM.out _ _ hqv; have hb := Lib.hid (bclone_spec (X := RO g) (a := a3) (cap := c3) (bs := bs) (RdB.ro hr) (by have := (hall.out _ _ hov).2; simp only at this; omega)); clear hr hc3) | intro hend | (refine SL.TO.is ?_; first | refine SL.W.next ?_ ?_ | refine SL.W.entry ?_ | (refine SL.TO.door (o := ⟨_, .call ⟨.value (.func 27), _, _⟩, _, _, _, _⟩) ?_; first | (refine SL.W.call (hb.out) ?_; rintro _ _ ⟨a4, c4, rfl, ha4, rfl⟩; try simp only [List.cons_append, List.nil_append])) | refine SL.TO.nil ?_ | (refine SL.TO.nilD ?_; simp only [SL.setB]) | refine SL.W.pass ?_ | refine SL.W.pass0 ?_ | (refine SL.W.pure ?_; first | refine SL.W.pv ?_ | refine SL.W.pv0 ?_ | refine SL.W.lenMp ?_) | (refine SL.W.loud ?_; first | refine SL.W.load ?_ | refine SL.W.loadA ?_ | refine SL.W.store ?_ | refine SL.W.storeA ?_ | (refine SL.W.box ?_; intro b) | (refine SL.W.alloc ?_; intro b) | (refine SL.W.buildSlice ?_; intro b) | (refine SL.W.append ?_; intro a cap) | refine SL.W.bytesToStr ?_ | refine SL.W.pvn (SL.PV.toIntC (by rfl) (by first | exact SL.wrap_i64 (by omega) | exact SL.wrap_u8 (by omega) | exact SL.wrap_u32 (by omega) | exact SL.wrap_u64 (by omega) | rfl)) ?_ | (refine SL.W.makeSlice ?_; intro b) | refine SL.W.lookupOk ?_ | refine SL.W.lookup ?_ | (refine SL.W.makeMap ?_; intro b) | refine SL.W.mapUpdate ?_ | (refine SL.W.mapEntry ?_; intro stamp) | refine SL.W.entryStore ?_ | (refine SL.W.range ?_; intro it) | refine SL.W.delete ?_) | (refine SL.W.guardP (fun h => ?_) (fun h => ?_) <;> (fail_if_success (have : h = trivial := rfl)) <;> (fail_if_success (have : h = not_false := rfl)) <;> first | contradiction | (exfalso; omega) | (exfalso; revert h; simp; done) | skip) | (refine SL.W.guardB (fun h => ?_) (fun h => ?_) <;> (fail_if_success (have : h = (rfl : true = true) := rfl)) <;> (fail_if_success (have : h = (rfl : false = false) := rfl)))) | (refine SL.TK.is ?_; first | refine SL.TK.seq ?_ | refine SL.TK.region ?_ | refine SL.TK.regionD SL.mixed (by simp only [SL.falses] <;> rfl) ?_ | refine SL.TK.block ?_ | refine SL.TK.inBlock ?_ | refine SL.TK.skip ?_ | refine SL.TK.scope ?_ | refine SL.TK.inScope ?_ | refine SL.TK.label ?_ | refine SL.W.exit ?_ | refine SL.W.condT ?_ | refine SL.W.condF ?_ | (refine SL.W.condP (fun h => ?_) (fun h => ?_) <;> (fail_if_success (have : h = trivial := rfl)) <;> (fail_if_success (have : h = not_false := rfl)) <;> first | contradiction | (exfalso; omega) | (exfalso; revert h; simp; done) | skip) | refine SL.W.condB (fun h => ?_) (fun h => ?_)) | (refine SL.TD.is ?_; first | (refine SL.W.dfin ?_; simp only [List.append_nil, List.cons_append, List.nil_append]) | refine SL.W.dpass ?_ | refine SL.W.dpure ?_ | refine SL.W.dload ?_ | refine SL.W.dloadA ?_ | refine SL.W.dfrz ?_ | (refine SL.W.dthaw ?_; simp only [List.append_nil, List.cons_append, List.nil_append]) | (refine SL.W.dguardP (fun h => ?_) (fun h => ?_) <;> (fail_if_success (have : h = trivial := rfl)) <;> (fail_if_success (have : h = not_false := rfl)) <;> first | contradiction | (exfalso; omega) | (exfalso; revert h; simp; done) | skip) | (refine SL.W.dguardB (fun h => ?_) (fun h => ?_) <;> (fail_if_success (have : h = (rfl : true = true) := rfl)) <;> (fail_if_success (have : h = (rfl : false = false) := rfl))) | refine SL.W.done ?_ | refine SL.W.dtwo ?_ ?_ | refine SL.W.dthree ?_ ?_ ?_))
  · have hfin : Tv g2' l2' T := ⟨fun q => by
        rw [hTD.out.keys, ← hV.out.keys]
        refine ⟨hI.out q, fun h => ?_⟩
        obtain ⟨p, hp, rfl⟩ := List.mem_map.1 h
        exact hend p hp, fun q v e => by
        refine hTD.out.val q v ?_ e
        have h1 := (hV.out.keys q).2 (List.mem_map.2 ⟨_, olk_some_mem e, rfl⟩)
        obtain ⟨p, hp, rfl⟩ := List.mem_map.1 h1
        exact hend p hp⟩
    refine SL.TK.retD Try.func17 (SL.Res.one rfl (by rfl)) ⟨tb2, rfl, rfl⟩ (EntD.trans mpI_done ?_)
    exact EntD.frm (pre := [SL.blk tb 56 [.map (some mb)], mp (Value.int .u32) mb l, RO g]) (by first | ((repeat (first | exact SL.Frm.nil | exact SL.Frm.refl | (apply SL.Frm.cons; repeat (first | exact SL.Pick.head | apply SL.Pick.tail)))); done) | fail) (tb_shut hV.out) (EntD.frm (pre := [SL.blk tb2 56 [.map (some mb2)], mp (Value.int .u32) mb2 l2', RO g2']) (by first | ((repeat (first | exact SL.Frm.nil | exact SL.Frm.refl | (apply SL.Frm.cons; repeat (first | exact SL.Pick.head | apply SL.Pick.tail)))); done) | fail) (tb_shut hfin) EntD.nil)
  · refine SL.TK.freeze (e := 5) (sz := 1) (a := a4) (g := g2') (by first | ((repeat (first | exact SL.Frm.nil | exact SL.Frm.refl | (apply SL.Frm.cons; repeat (first | exact SL.Pick.head | apply SL.Pick.tail)))); done) | fail) (fun g3 hg hr3 hle => ?_)
    refine SL.TK.againD ih ⟨q :: done, _, g3, ?_, hTD.out.ins hg hov hr3 hle, rfl, rfl, rfl⟩ (by first | ((repeat (first | exact SL.Sub.nil | refine SL.Sub.cons (by rfl) (by first | rfl | exact SL.int_eq (by omega)) ?_)); done) | fail) (EntD.cons (by first | ((repeat (first | exact SL.Pick.head | apply SL.Pick.tail)); done) | fail) (EntD.cons (by first | ((repeat (first | exact SL.Pick.head | apply SL.Pick.tail)); done) | fail) (EntD.cons (by first | ((repeat (first | exact SL.Pick.head | apply SL.Pick.tail)); done) | fail) (EntD.cons (by first | ((repeat (first | exact SL.Pick.head | apply SL.Pick.tail)); done) | fail) (EntD.cons (by first | ((repeat (first | exact SL.Pick.head | apply SL.Pick.tail)); done) | fail) (EntD.cons (by first | ((repeat (first | exact SL.Pick.head | apply SL.Pick.tail)); done) | fail) EntD.nil)))))) (flt_lt hqv hqd)
    intro x hx
    rcases List.mem_cons.1 hx with rfl | hx
    · exact List.mem_map.2 ⟨_, hqv, rfl⟩
    · exact hI.out x hx
end SL
