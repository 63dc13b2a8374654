/-
  Chapter 29: NetPlays: the switch over the calls: Put.
-/
import Derived.Test.YtidogcbcknpdiaaNet27
set_option linter.unusedVariables false
set_option linter.unusedSimpArgs false
set_option maxRecDepth 10000
namespace SL
open Go Go.Proofs Go.RowKit

theorem ref_open {rb : Nat} {l : List Fr} {L' : List HProp} : ∀ h, seps (RefAt rb l :: L') h → ∃ x : (Option Addr × Nat) × Frs, x.2.map (·.1) = l ∧
    seps (SL.blk rb 50 [.slice x.1.1 l.length x.1.2] :: own 53 5 x.1.1 l.length x.1.2 (cellsP x.2) :: seps (framesP x.2) :: L') h := by
  rintro h ⟨h1, h2, d, rfl, ⟨x, hx⟩, hy⟩
  obtain ⟨e, h3⟩ := sep_fact.1 hx
  have x1 : sep (seps [SL.blk rb 50 [.slice x.1.1 l.length x.1.2], own 53 5 x.1.1 l.length x.1.2 (cellsP x.2), seps (framesP x.2)]) (seps L') (join h1 h2) := ⟨h1, h2, d, rfl, h3, hy⟩
  exact ⟨x, e, seps_append.2 x1⟩
theorem rput_own (rb : Nat) (l : List Fr) (f : Fr) (s : Option Addr × Nat) (hb : f.bs.length ≤ 1048576) : Spec Try.prog 18 [.pointer (some ⟨rb, 0, none⟩), .agg (frV f s).toArray] [RefAt rb l, byt s f.bs]
    (fun r L => r = .int .i64 (putN l.length f) ∧ L = [RefAt rb (putL l f), byt s f.bs]) := by
  refine SL.Spec.openP SL.call18 ref_open (fun x hx => ?_)
  obtain ⟨⟨a, cap⟩, fs⟩ := x
  refine SL.Spec.postD (SL.Spec.framed (rput_raw rb l.length cap a (cellsP fs) f s hb) [seps (framesP fs)] (by first | ((repeat (first | exact SL.Frm.nil | exact SL.Frm.refl | (apply SL.Frm.cons; repeat (first | exact SL.Pick.head | apply SL.Pick.tail)))); done) | fail)) ?_
  rintro v L ⟨L1, ⟨rfl, hL⟩, rfl⟩
  rcases hL with ⟨h0, rfl⟩ | ⟨h0, a', cap', s', rfl⟩
  · exact ⟨_, ⟨rfl, rfl⟩, by rw [show putL l f = l from if_neg h0]; exact (EntD.frm (by first | ((repeat (first | exact SL.Frm.nil | exact SL.Frm.refl | (apply SL.Frm.cons; repeat (first | exact SL.Pick.head | apply SL.Pick.tail)))); done) | fail) (ref_shut fs hx rfl) (EntD.cons (by first | ((repeat (first | exact SL.Pick.head | apply SL.Pick.tail)); done) | fail) EntD.nil))⟩
  · exact ⟨_, ⟨rfl, rfl⟩, by rw [show putL l f = l ++ [f] from if_pos h0]; exact (EntD.frm (by first | ((repeat (first | exact SL.Frm.nil | exact SL.Frm.refl | (apply SL.Frm.cons; repeat (first | exact SL.Pick.head | apply SL.Pick.tail)))); done) | fail) (ref_snoc (s := s') fs hx rfl) (EntD.cons (by first | ((repeat (first | exact SL.Pick.head | apply SL.Pick.tail)); done) | fail) EntD.nil))⟩
attribute [local irreducible] SL.TK SL.TO SL.TD SL.PV SL.Pick SL.Frm SL.Ent SL.Sub SL.EvAll SL.seps SL.sep SL.Cut SL.PutAt SL.blk SL.EvP SL.Fill SL.Src SL.EntD SL.own SL.ex SL.fact SL.orig

theorem putL_le (l : List Fr) (f : Fr) : (putL l f).length ≤ l.length + 1 := by unfold putL; split <;> simp
theorem putL_bs {l : List Fr} {f : Fr} {n : Nat} (hl : ∀ g ∈ l, g.bs.length ≤ n) (hf : f.bs.length ≤ n) : ∀ g ∈ putL l f, g.bs.length ≤ n := by
  intro g hg
  unfold putL at hg
  split at hg
  · rcases List.mem_append.1 hg with hg | hg
    · exact hl g hg
    · simp at hg; subst hg; exact hf
  · exact hl g hg

/-- what the switch leaves to what comes behind it -/
def After (W : World) (rb ab : Nat) (A : Act) (post : Post) (k : List Item) (v26 v27 v28 : Value) (m : Nat) : Prop := ∀ (nb : Nat) (l : List Fr), l.length ≤ m + 1 → (∀ f ∈ l, f.bs.length ≤ 200) →
  TK Try.prog 5 Try.f5.ntmps post k [(3, .pointer (some ⟨nb, 0, none⟩)), (4, .pointer (some ⟨rb, 0, none⟩)), (6, .pointer (some ⟨ab, 0, none⟩)), (8, .bool true), (26, v26), (27, v27), (28, v28)]
    [orig W, NetAt nb l, RefAt rb l, SL.blk ab 33 (actV A)]

set_option maxHeartbeats 2000000 in
theorem sw0 {post : Post} {k : List Item} (W : World) (nb rb ab fb : Nat) (A : Act) (f : Fr) (s : Option Addr × Nat) (l : List Fr) (v26 v27 v28 : Value) (hl : l.length ≤ 100) (hw : ∀ f ∈ l, f.bs.length ≤ 200) (hf : f.bs.length ≤ 200)
    (hk : Hid (After W rb ab A post k v26 v27 v28 l.length)) :
    TK Try.prog 5 Try.f5.ntmps post (.code (blkAt Try.f5 2) :: k) [(48, .int .i64 0), (3, .pointer (some ⟨nb, 0, none⟩)), (4, .pointer (some ⟨rb, 0, none⟩)), (6, .pointer (some ⟨ab, 0, none⟩)), (7, .pointer (some ⟨fb, 0, none⟩)), (8, .bool true), (26, v26), (27, v27), (28, v28)]
      [orig W, NetAt nb l, RefAt rb l, SL.blk ab 33 (actV A), SL.blk fb 31 (frV f s), byt s f.bs] := by
  have hpn := putL_le l f
  have hpb := Lib.hid (putL_bs hw hf)
  obtain ⟨l', hl'⟩ : ∃ l', l' = putL l f := ⟨_, rfl⟩
  obtain ⟨pn, hpN⟩ : ∃ pn, pn = putN l.length f := ⟨_, rfl⟩
  have hput := Lib.hid (put_spec nb l f s)
  have hrput := Lib.hid fun (s' : Option Addr × Nat) => rput_own rb l f s' (by omega)
  rw [← hl'] at hpn hpb hput hrput
  rw [← hpN] at hput hrput
  have h1 := one_bytesL f.bs
  have hp8 : Value.bool (decide (pn = pn)) = .bool true := by simp
  clear hl' hw hpN
  refine SL.TK.block ?_
  repeat' (first | (refine SL.TO.is ?_; first | (refine SL.TO.door (o := ⟨_, .call ⟨.value (.func 17), _, _⟩, _, _, _, _⟩) ?_; first | (refine SL.W.call (of_spec _ _) ?_; rintro _ _ ⟨rfl, rfl⟩; try simp only [List.cons_append, List.nil_append])) | (refine SL.TO.door (o := ⟨_, .call ⟨.value (.func 9), _, _⟩, _, _, _, _⟩) ?_; first | (refine SL.W.call (hput.out) ?_; rintro _ _ ⟨rfl, rfl⟩; try simp only [List.cons_append, List.nil_append])) | (refine SL.TO.door (o := ⟨_, .call ⟨.value (.func 18), _, _⟩, _, _, _, _⟩) ?_; first | (refine SL.W.call (hrput.out (_, _)) ?_; rintro _ _ ⟨rfl, rfl⟩; try simp only [List.cons_append, List.nil_append])) | refine SL.TO.nil ?_ | (refine SL.TO.nilD ?_; simp only [SL.setB]) | refine SL.W.pass ?_ | refine SL.W.pass0 ?_ | (refine SL.W.pure ?_; first | refine SL.W.pv ?_ | refine SL.W.pv0 ?_ | refine SL.W.lenMp ?_ | (refine SL.W.guardP (fun h => ?_) (fun h => ?_) <;> (fail_if_success (have : h = trivial := rfl)) <;> (fail_if_success (have : h = not_false := rfl)) <;> first | contradiction | (exfalso; omega) | (exfalso; revert h; simp; done) | skip) | (refine SL.W.guardB (fun h => ?_) (fun h => ?_) <;> (fail_if_success (have : h = (rfl : true = true) := rfl)) <;> (fail_if_success (have : h = (rfl : false = false) := rfl)))) | (refine SL.W.loud ?_; first | refine SL.W.load ?_ | refine SL.W.loadA ?_ | refine SL.W.store ?_ | refine SL.W.storeA ?_ | (refine SL.W.box ?_; intro b) | (refine SL.W.alloc ?_; intro b) | (refine SL.W.buildSlice ?_; intro b) | (refine SL.W.append ?_; intro a cap) | refine SL.W.bytesToStr ?_ | refine SL.W.pvn (SL.PV.toIntC (by rfl) (by first | exact SL.wrap_i64 (by omega) | exact SL.wrap_u8 (by omega) | exact SL.wrap_u32 (by omega) | exact SL.wrap_u64 (by omega) | rfl)) ?_ | (refine SL.W.makeSlice ?_; intro b) | refine SL.W.lookupOk ?_ | refine SL.W.lookup ?_ | (refine SL.W.makeMap ?_; intro b) | refine SL.W.mapUpdate ?_ | (refine SL.W.mapEntry ?_; intro stamp) | refine SL.W.entryStore ?_ | (refine SL.W.range ?_; intro it) | refine SL.W.delete ?_ | (refine SL.W.guardP (fun h => ?_) (fun h => ?_) <;> (fail_if_success (have : h = trivial := rfl)) <;> (fail_if_success (have : h = not_false := rfl)) <;> first | contradiction | (exfalso; omega) | (exfalso; revert h; simp; done) | skip) | (refine SL.W.guardB (fun h => ?_) (fun h => ?_) <;> (fail_if_success (have : h = (rfl : true = true) := rfl)) <;> (fail_if_success (have : h = (rfl : false = false) := rfl))))) | (refine SL.TK.lp ?_; first | refine SL.W.loop (flip_loop1 fb f s _ _ _ _ _ _ _ _ hf ?_)) | (refine SL.TK.is ?_; first | refine SL.TK.seq ?_ | refine SL.TK.region ?_ | refine SL.TK.regionD SL.mixed (by simp only [SL.falses] <;> rfl) ?_ | refine SL.TK.block ?_ | refine SL.TK.inBlock ?_ | refine SL.TK.skip ?_ | refine SL.TK.scope ?_ | refine SL.TK.inScope ?_ | refine SL.TK.label ?_ | refine SL.W.exit ?_ | refine SL.W.condT ?_ | refine SL.W.condF ?_ | (refine SL.W.condP (fun h => ?_) (fun h => ?_) <;> (fail_if_success (have : h = trivial := rfl)) <;> (fail_if_success (have : h = not_false := rfl)) <;> first | contradiction | (exfalso; omega) | (exfalso; revert h; simp; done) | skip) | refine SL.W.condB (fun h => ?_) (fun h => ?_)) | (refine SL.TD.is ?_; first | (refine SL.W.dfin ?_; simp only [List.append_nil, List.cons_append, List.nil_append]) | refine SL.W.dpass ?_ | refine SL.W.dpure ?_ | refine SL.W.dload ?_ | refine SL.W.dloadA ?_ | refine SL.W.dfrz ?_ | (refine SL.W.dthaw ?_; simp only [List.append_nil, List.cons_append, List.nil_append]) | (refine SL.W.dguardP (fun h => ?_) (fun h => ?_) <;> (fail_if_success (have : h = trivial := rfl)) <;> (fail_if_success (have : h = not_false := rfl)) <;> first | contradiction | (exfalso; omega) | (exfalso; revert h; simp; done) | skip) | (refine SL.W.dguardB (fun h => ?_) (fun h => ?_) <;> (fail_if_success (have : h = (rfl : true = true) := rfl)) <;> (fail_if_success (have : h = (rfl : false = false) := rfl))) | refine SL.W.done ?_ | refine SL.W.dtwo ?_ ?_ | refine SL.W.dthree ?_ ?_ ?_))
  all_goals
    first | refine SL.TK.slot (d := 8) (by rfl) (v' := .bool true) hp8 ?_ | skip
    refine SL.TK.weakD (by first | ((repeat (first | exact SL.Sub.nil | refine SL.Sub.cons (by rfl) (by first | rfl | exact SL.int_eq (by omega)) ?_)); done) | fail) ?_ (hk.out nb l' hpn hpb.out)
    exact EntD.cons (by first | ((repeat (first | exact SL.Pick.head | apply SL.Pick.tail)); done) | fail) (EntD.cons (by first | ((repeat (first | exact SL.Pick.head | apply SL.Pick.tail)); done) | fail) (EntD.cons (by first | ((repeat (first | exact SL.Pick.head | apply SL.Pick.tail)); done) | fail) (EntD.cons (by first | ((repeat (first | exact SL.Pick.head | apply SL.Pick.tail)); done) | fail) EntD.nil)))
end SL
