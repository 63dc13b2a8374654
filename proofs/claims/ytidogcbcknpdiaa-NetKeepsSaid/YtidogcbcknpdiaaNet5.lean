/-
  Chapter 29: contracts of Double, Flip and All.
-/
import Derived.Test.YtidogcbcknpdiaaNet4
set_option linter.unusedVariables false
set_option linter.unusedSimpArgs false
set_option maxRecDepth 10000
namespace SL
open Go Go.Proofs
attribute [local irreducible] SL.TK SL.TO SL.TD SL.PV SL.Pick SL.Frm SL.Ent SL.Sub SL.EvAll SL.seps SL.sep SL.Cut SL.PutAt SL.blk SL.EvP SL.Fill SL.Src SL.EntD SL.own SL.ex SL.fact SL.orig

theorem double1_spec (nb b vb cap k : Nat) (fs : Frs) (extra : List Value) (f : Fr) (s : Option Addr × Nat) (hk : fs[k]? = some (f, s)) (hc : fs.length ≤ cap) (hcap : (cellsP fs ++ extra).length = cap * 5) :
    Spec Try.prog 32 (.pointer (some ⟨b, k * 5, none⟩) :: [.pointer (some ⟨vb, 0, none⟩)])
      (blk nb 65 [.slice (some ⟨b, 0, none⟩) fs.length cap, .bool true] :: [blk b 31 (cellsP fs ++ extra), byt s f.bs, blk vb 23 [.pointer (some ⟨nb, 0, none⟩)]])
      (fun r L => r = .int .i64 (putN fs.length f) ∧ ((putN fs.length f ≠ 0 ∧ L = [blk nb 65 [.slice (some ⟨b, 0, none⟩) fs.length cap, .bool true], own 31 5 (some ⟨b, 0, none⟩) fs.length cap (cellsP fs), byt s f.bs]) ∨
      (putN fs.length f = 0 ∧ ∃ a cap' s', L = [blk nb 65 [.slice a (fs.length + 1) cap', .bool true], own 31 5 a (fs.length + 1) cap' (cellsP fs ++ frV f s'), byt s f.bs, byt s' f.bs]))) := by
  have hcut := cellsP_cut (extra := extra) hk
  have hpre : EntD [blk nb 65 [.slice (some ⟨b, 0, none⟩) fs.length cap, .bool true], blk b 31 (cellsP fs ++ extra), byt s f.bs] [blk nb 65 [.slice (some ⟨b, 0, none⟩) fs.length cap, .bool true], own 31 5 (some ⟨b, 0, none⟩) fs.length cap (cellsP fs), byt s f.bs] :=
    EntD.of_ent (Ent.cons (by first | ((repeat (first | exact SL.Pick.head | apply SL.Pick.tail)); done) | fail) (Ent.own_blk (by first | ((repeat (first | exact SL.Pick.head | apply SL.Pick.tail)); done) | fail) rfl (cellsP_length fs) hcap hc Ent.refl))
  have hput := Lib.hid (SL.Spec.preD (put_raw nb fs.length cap (some ⟨b, 0, none⟩) (cellsP fs) f s) hpre)
  clear hpre hcap
  refine SL.Spec.of_TK Go.Proofs.Try.func32 rfl rfl SL.call32 rfl ?_
  repeat' (first | refine SL.TD.two (by rfl) (by rfl) (by rfl) ?_ ?_ | refine SL.TD.one (by rfl) (by rfl) ?_ | refine SL.TO.loadA (by rfl) rfl (by rfl) (by first | ((repeat (first | exact SL.Pick.head | apply SL.Pick.tail)); done) | fail) hcut ?_ | (refine SL.W.call (hput.out) ?_; rintro _ _ ⟨rfl, hpost⟩; try simp only [List.cons_append, List.nil_append]) | (refine SL.TO.is ?_; first | refine SL.TO.nil ?_ | (refine SL.TO.nilD ?_; simp only [SL.setB]) | refine SL.W.pass ?_ | refine SL.W.pass0 ?_ | (refine SL.W.pure ?_; first | refine SL.W.pv ?_ | refine SL.W.pv0 ?_ | refine SL.W.lenMp ?_ | (refine SL.W.guardP (fun h => ?_) (fun h => ?_) <;> first | contradiction | (exfalso; omega) | (exfalso; revert h; simp; done) | skip) | (refine SL.W.guardB (fun h => ?_) (fun h => ?_) <;> (fail_if_success (have : h = (rfl : true = true) := rfl)))) | (refine SL.W.loud ?_; first | refine SL.W.load ?_ | refine SL.W.loadA ?_ | refine SL.W.store ?_ | refine SL.W.storeA ?_ | (refine SL.W.box ?_; intro b) | (refine SL.W.alloc ?_; intro b) | (refine SL.W.buildSlice ?_; intro b) | (refine SL.W.append ?_; intro a cap) | refine SL.W.bytesToStr ?_ | (refine SL.W.makeSlice ?_; intro b) | refine SL.W.lookupOk ?_ | refine SL.W.lookup ?_ | (refine SL.W.makeMap ?_; intro b) | refine SL.W.mapUpdate ?_ | (refine SL.W.mapEntry ?_; intro stamp) | refine SL.W.entryStore ?_ | (refine SL.W.range ?_; intro it) | refine SL.W.delete ?_ | (refine SL.W.guardP (fun h => ?_) (fun h => ?_) <;> first | contradiction | (exfalso; omega) | (exfalso; revert h; simp; done) | skip) | (refine SL.W.guardB (fun h => ?_) (fun h => ?_) <;> (fail_if_success (have : h = (rfl : true = true) := rfl))))) | (refine SL.TK.is ?_; first | refine SL.TK.seq ?_ | refine SL.TK.region ?_ | refine SL.TK.regionD SL.mixed (by simp only [SL.falses] <;> rfl) ?_ | refine SL.TK.block ?_ | refine SL.TK.inBlock ?_ | refine SL.TK.skip ?_ | refine SL.TK.scope ?_ | refine SL.TK.inScope ?_ | refine SL.TK.label ?_ | refine SL.W.exit ?_ | refine SL.W.condT ?_ | refine SL.W.condF ?_ | (refine SL.W.condP (fun h => ?_) (fun h => ?_) <;> first | contradiction | (exfalso; omega) | (exfalso; revert h; simp; done) | skip) | refine SL.W.condB (fun h => ?_) (fun h => ?_)) | (refine SL.TD.is ?_; first | (refine SL.TD.fin (by rfl) ?_; simp only [List.append_nil, List.cons_append, List.nil_append]) | refine SL.W.dpass ?_ | refine SL.W.dpure ?_ | refine SL.W.dload ?_ | refine SL.W.dloadA ?_ | refine SL.W.dfrz ?_ | (refine SL.W.dthaw ?_; simp only [List.append_nil, List.cons_append, List.nil_append]) | (refine SL.W.dguardP (fun h => ?_) (fun h => ?_) <;> first | contradiction | (exfalso; omega) | (exfalso; revert h; simp; done) | skip) | (refine SL.W.dguardB (fun h => ?_) (fun h => ?_) <;> (fail_if_success (have : h = (rfl : true = true) := rfl))) | refine SL.W.done ?_ | refine SL.W.dtwo ?_ ?_ | refine SL.W.dthree ?_ ?_ ?_))
  all_goals
    rename_i hpost
    rcases hpost with ⟨h0, rfl⟩ | ⟨h0, a', cap', s', rfl⟩
    · exact SL.TK.retD Try.func32 (SL.Res.one rfl (by rfl)) ⟨rfl, .inl ⟨h0, rfl⟩⟩ (EntD.cons (by first | ((repeat (first | exact SL.Pick.head | apply SL.Pick.tail)); done) | fail) (EntD.cons (by first | ((repeat (first | exact SL.Pick.head | apply SL.Pick.tail)); done) | fail) (EntD.cons (by first | ((repeat (first | exact SL.Pick.head | apply SL.Pick.tail)); done) | fail) EntD.nil)))
    · exact SL.TK.retD Try.func32 (SL.Res.one rfl (by rfl)) ⟨rfl, .inr ⟨h0, a', cap', s', rfl⟩⟩ (EntD.cons (by first | ((repeat (first | exact SL.Pick.head | apply SL.Pick.tail)); done) | fail) (EntD.cons (by first | ((repeat (first | exact SL.Pick.head | apply SL.Pick.tail)); done) | fail) (EntD.cons (by first | ((repeat (first | exact SL.Pick.head | apply SL.Pick.tail)); done) | fail) (EntD.cons (by first | ((repeat (first | exact SL.Pick.head | apply SL.Pick.tail)); done) | fail) EntD.nil))))

def doubleC (l : List Fr) (k : Int) : Int := if 0 ≤ k ∧ k < l.length then (match l[k.toNat]? with
  | some f => putN l.length f
  | none => 6) else 6
def doubleL (l : List Fr) (k : Int) : List Fr := if 0 ≤ k ∧ k < l.length then (match l[k.toNat]? with
  | some f => putL l f
  | none => l) else l

theorem double_spec (nb : Nat) (k : Int) (l : List Fr) : Spec Try.prog 14 [.pointer (some ⟨nb, 0, none⟩), .int .i64 k] [NetAt nb l]
    (fun r L => r = .int .i64 (doubleC l k) ∧ L = [NetAt nb (doubleL l k)]) := by
  by_cases hk : 0 ≤ k ∧ k < l.length
  · obtain ⟨j, rfl⟩ := Int.eq_ofNat_of_zero_le hk.1
    have hj : j < l.length := by omega
    have hlj : l[j]? = some l[j] := List.getElem?_eq_getElem hj
    unfold doubleC doubleL
    rw [if_pos hk, if_pos hk, Int.toNat_natCast, hlj]
    generalize l[j] = f at hlj ⊢
    clear hk
    simp only
    refine SL.Spec.of_TK Go.Proofs.Try.func14 rfl rfl SL.call14 rfl ?_
    refine SL.TK.openNet (by first | ((repeat (first | exact SL.Pick.head | apply SL.Pick.tail)); done) | fail) (fun a1 cap1 => ?_)
    refine SL.TK.openFr (by first | ((repeat (first | exact SL.Pick.head | apply SL.Pick.tail)); done) | fail) (fun fs hfs => ?_)
    refine SL.TK.ownPos (by first | ((repeat (first | exact SL.Pick.head | apply SL.Pick.tail)); done) | fail) (by omega) (fun b0 extra ea e1 e2 e3 => ?_)
    subst ea
    have hlen : fs.length = l.length := by rw [← hfs, List.length_map]
    obtain ⟨p, hp⟩ : ∃ p, fs[j]? = some p := ⟨fs[j]'(by omega), List.getElem?_eq_getElem (by omega)⟩
    obtain ⟨f', s⟩ := p
    have hf : f' = f := by
      rw [← hfs, List.getElem?_map, hp] at hlj
      simpa using hlj
    subst hf
    have ht1 := Lib.hid fun (vb : Nat) => at_in nb b0 fs.length cap1 j (by omega) (double1_spec nb b0 vb cap1 j fs extra f' s hp (by omega) e2)
    have hHl := Lib.hid hlen
    rw [← hlen]
    clear e2 e1
    refine SL.TK.pickFr (by first | ((repeat (first | exact SL.Pick.head | apply SL.Pick.tail)); done) | fail) hp ?_
    repeat' (first | (refine SL.W.call (ht1.out _) ?_; rintro _ _ ⟨rfl, hpost⟩; try simp only [List.cons_append, List.nil_append]) | (refine SL.TO.is ?_; first | refine SL.TO.nil ?_ | (refine SL.TO.nilD ?_; simp only [SL.setB]) | refine SL.W.pass ?_ | refine SL.W.pass0 ?_ | (refine SL.W.pure ?_; first | refine SL.W.pv ?_ | refine SL.W.pv0 ?_ | refine SL.W.lenMp ?_ | (refine SL.W.guardP (fun h => ?_) (fun h => ?_) <;> first | contradiction | (exfalso; omega) | (exfalso; revert h; simp; done) | skip) | (refine SL.W.guardB (fun h => ?_) (fun h => ?_) <;> (fail_if_success (have : h = (rfl : true = true) := rfl)))) | (refine SL.W.loud ?_; first | refine SL.W.load ?_ | refine SL.W.loadA ?_ | refine SL.W.store ?_ | refine SL.W.storeA ?_ | (refine SL.W.box ?_; intro b) | (refine SL.W.alloc ?_; intro b) | (refine SL.W.buildSlice ?_; intro b) | (refine SL.W.append ?_; intro a cap) | refine SL.W.bytesToStr ?_ | (refine SL.W.makeSlice ?_; intro b) | refine SL.W.lookupOk ?_ | refine SL.W.lookup ?_ | (refine SL.W.makeMap ?_; intro b) | refine SL.W.mapUpdate ?_ | (refine SL.W.mapEntry ?_; intro stamp) | refine SL.W.entryStore ?_ | (refine SL.W.range ?_; intro it) | refine SL.W.delete ?_ | (refine SL.W.guardP (fun h => ?_) (fun h => ?_) <;> first | contradiction | (exfalso; omega) | (exfalso; revert h; simp; done) | skip) | (refine SL.W.guardB (fun h => ?_) (fun h => ?_) <;> (fail_if_success (have : h = (rfl : true = true) := rfl))))) | (refine SL.TK.is ?_; first | refine SL.TK.seq ?_ | refine SL.TK.region ?_ | refine SL.TK.regionD SL.mixed (by simp only [SL.falses] <;> rfl) ?_ | refine SL.TK.block ?_ | refine SL.TK.inBlock ?_ | refine SL.TK.skip ?_ | refine SL.TK.scope ?_ | refine SL.TK.inScope ?_ | refine SL.TK.label ?_ | refine SL.W.exit ?_ | refine SL.W.condT ?_ | refine SL.W.condF ?_ | (refine SL.W.condP (fun h => ?_) (fun h => ?_) <;> first | contradiction | (exfalso; omega) | (exfalso; revert h; simp; done) | skip) | refine SL.W.condB (fun h => ?_) (fun h => ?_)) | (refine SL.TD.is ?_; first | (refine SL.TD.fin (by rfl) ?_; simp only [List.append_nil, List.cons_append, List.nil_append]) | refine SL.W.dpass ?_ | refine SL.W.dpure ?_ | refine SL.W.dload ?_ | refine SL.W.dloadA ?_ | refine SL.W.dfrz ?_ | (refine SL.W.dthaw ?_; simp only [List.append_nil, List.cons_append, List.nil_append]) | (refine SL.W.dguardP (fun h => ?_) (fun h => ?_) <;> first | contradiction | (exfalso; omega) | (exfalso; revert h; simp; done) | skip) | (refine SL.W.dguardB (fun h => ?_) (fun h => ?_) <;> (fail_if_success (have : h = (rfl : true = true) := rfl))) | refine SL.W.done ?_ | refine SL.W.dtwo ?_ ?_ | refine SL.W.dthree ?_ ?_ ?_))
    rename_i hpost
    rcases hpost with ⟨h0, rfl⟩ | ⟨h0, a', cap', s', rfl⟩
    · refine SL.TK.retD Try.func14 (SL.Res.one rfl (by rfl)) (L' := [NetAt nb l]) ⟨rfl, by rw [show putL l f' = l from if_neg (by rw [← hHl.out]; exact h0)]⟩ (EntD.frm (by first | ((repeat (first | exact SL.Frm.nil | exact SL.Frm.refl | (apply SL.Frm.cons; repeat (first | exact SL.Pick.head | apply SL.Pick.tail)))); done) | fail) (net_same fs hfs hHl.out hp) EntD.nil)
    · refine SL.TK.retD Try.func14 (SL.Res.one rfl (by rfl)) (L' := [NetAt nb (l ++ [f'])]) ⟨rfl, by rw [show putL l f' = l ++ [f'] from if_pos (by rw [← hHl.out]; exact h0)]⟩ (EntD.frm (by first | ((repeat (first | exact SL.Frm.nil | exact SL.Frm.refl | (apply SL.Frm.cons; repeat (first | exact SL.Pick.head | apply SL.Pick.tail)))); done) | fail) (net_dbl (s' := s') fs hfs (by rw [hHl.out]) hp) EntD.nil)
  · unfold doubleC doubleL
    rw [if_neg hk, if_neg hk]
    refine SL.Spec.of_TK Go.Proofs.Try.func14 rfl rfl SL.call14 rfl ?_
    refine SL.TK.openNet (by first | ((repeat (first | exact SL.Pick.head | apply SL.Pick.tail)); done) | fail) (fun a1 cap1 => ?_)
    have ht1 := Lib.hid (at_out nb l.length cap1 k a1 · hk)
    clear hk
    repeat' (first | (refine SL.W.call (ht1.out _) ?_; rintro _ _ ⟨rfl, rfl⟩; try simp only [List.cons_append, List.nil_append]) | (refine SL.TO.is ?_; first | refine SL.TO.nil ?_ | (refine SL.TO.nilD ?_; simp only [SL.setB]) | refine SL.W.pass ?_ | refine SL.W.pass0 ?_ | (refine SL.W.pure ?_; first | refine SL.W.pv ?_ | refine SL.W.pv0 ?_ | refine SL.W.lenMp ?_ | (refine SL.W.guardP (fun h => ?_) (fun h => ?_) <;> first | contradiction | (exfalso; omega) | (exfalso; revert h; simp; done) | skip) | (refine SL.W.guardB (fun h => ?_) (fun h => ?_) <;> (fail_if_success (have : h = (rfl : true = true) := rfl)))) | (refine SL.W.loud ?_; first | refine SL.W.load ?_ | refine SL.W.loadA ?_ | refine SL.W.store ?_ | refine SL.W.storeA ?_ | (refine SL.W.box ?_; intro b) | (refine SL.W.alloc ?_; intro b) | (refine SL.W.buildSlice ?_; intro b) | (refine SL.W.append ?_; intro a cap) | refine SL.W.bytesToStr ?_ | (refine SL.W.makeSlice ?_; intro b) | refine SL.W.lookupOk ?_ | refine SL.W.lookup ?_ | (refine SL.W.makeMap ?_; intro b) | refine SL.W.mapUpdate ?_ | (refine SL.W.mapEntry ?_; intro stamp) | refine SL.W.entryStore ?_ | (refine SL.W.range ?_; intro it) | refine SL.W.delete ?_ | (refine SL.W.guardP (fun h => ?_) (fun h => ?_) <;> first | contradiction | (exfalso; omega) | (exfalso; revert h; simp; done) | skip) | (refine SL.W.guardB (fun h => ?_) (fun h => ?_) <;> (fail_if_success (have : h = (rfl : true = true) := rfl))))) | (refine SL.TK.is ?_; first | refine SL.TK.seq ?_ | refine SL.TK.region ?_ | refine SL.TK.regionD SL.mixed (by simp only [SL.falses] <;> rfl) ?_ | refine SL.TK.block ?_ | refine SL.TK.inBlock ?_ | refine SL.TK.skip ?_ | refine SL.TK.scope ?_ | refine SL.TK.inScope ?_ | refine SL.TK.label ?_ | refine SL.W.exit ?_ | refine SL.W.condT ?_ | refine SL.W.condF ?_ | (refine SL.W.condP (fun h => ?_) (fun h => ?_) <;> first | contradiction | (exfalso; omega) | (exfalso; revert h; simp; done) | skip) | refine SL.W.condB (fun h => ?_) (fun h => ?_)) | (refine SL.TD.is ?_; first | (refine SL.TD.fin (by rfl) ?_; simp only [List.append_nil, List.cons_append, List.nil_append]) | refine SL.W.dpass ?_ | refine SL.W.dpure ?_ | refine SL.W.dload ?_ | refine SL.W.dloadA ?_ | refine SL.W.dfrz ?_ | (refine SL.W.dthaw ?_; simp only [List.append_nil, List.cons_append, List.nil_append]) | (refine SL.W.dguardP (fun h => ?_) (fun h => ?_) <;> first | contradiction | (exfalso; omega) | (exfalso; revert h; simp; done) | skip) | (refine SL.W.dguardB (fun h => ?_) (fun h => ?_) <;> (fail_if_success (have : h = (rfl : true = true) := rfl))) | refine SL.W.done ?_ | refine SL.W.dtwo ?_ ?_ | refine SL.W.dthree ?_ ?_ ?_))
    exact SL.TK.retD Try.func14 (SL.Res.one rfl (by rfl)) ⟨rfl, rfl⟩ (EntD.frm (by first | ((repeat (first | exact SL.Frm.nil | exact SL.Frm.refl | (apply SL.Frm.cons; repeat (first | exact SL.Pick.head | apply SL.Pick.tail)))); done) | fail) (net_shut rfl) EntD.nil)
end SL
