/-
  The given statement 'NetPlays': rows of calls are answered as the document says.
  Conditions: none beyond those of the given statement.
-/
import Derived.Test.YtidogcbcknpdiaaNet29
import Derived.Test.YtidogcbcknpdiaaRows
set_option linter.unusedVariables false
set_option linter.unusedSimpArgs false
set_option maxRecDepth 10000
namespace SL
open Go Go.Proofs Go.RowKit

def bodyB : Code → Code
  | .block _ (.loop c) => c
  | _ => .skip
noncomputable abbrev B5 : Code := bodyB (loopAt Try.f5 0)
theorem ref_none {rb : Nat} : ∀ h, seps [SL.blk rb 50 [.slice none 0 0], own 53 5 none 0 0 []] h → RefAt rb [] h := fun h x =>
  ref_shut (a := none) (cap := 0) (m := 0) [] rfl rfl h (by
    have h2 : Ent [SL.blk rb 50 [.slice none 0 0], own 53 5 none 0 0 []] [SL.blk rb 50 [.slice none 0 0], own 53 5 none 0 0 (cellsP []), seps (framesP [])] :=
      Ent.cons Pick.head (Ent.cons Pick.head (Ent.toSeps Frm.nil Ent.refl))
    exact h2 h x)

attribute [local irreducible] SL.TK SL.TO SL.TD SL.PV SL.Pick SL.Frm SL.Ent SL.Sub SL.EvAll SL.seps SL.sep SL.Cut SL.PutAt SL.blk SL.EvP SL.Fill SL.Src SL.EntD SL.own SL.ex SL.fact SL.orig

theorem lenP_spec (nb : Nat) (l : List Fr) : Spec Try.prog 24 [.pointer (some ⟨nb, 0, none⟩)] [NetAt nb l] (fun r L => r = .int .i64 l.length ∧ L = [NetAt nb l]) := by
  refine SL.Spec.of_TK Go.Proofs.Try.func24 rfl rfl SL.call24 rfl ?_
  refine SL.TK.openNet (by first | ((repeat (first | exact SL.Pick.head | apply SL.Pick.tail)); done) | fail) (fun a1 cap1 => ?_)
  repeat' (first | (refine SL.TO.is ?_; first | (refine SL.TO.door (o := ⟨_, .call ⟨.value (.func 26), _, _⟩, _, _, _, _⟩) ?_; first | (refine SL.W.call (none_spec _ _ _) ?_; rintro _ _ ⟨rfl, rfl⟩; try simp only [List.cons_append, List.nil_append])) | refine SL.TO.nil ?_ | (refine SL.TO.nilD ?_; simp only [SL.setB]) | refine SL.W.pass ?_ | refine SL.W.pass0 ?_ | (refine SL.W.pure ?_; first | refine SL.W.pv ?_ | refine SL.W.pv0 ?_ | refine SL.W.lenMp ?_ | (refine SL.W.guardP (fun h => ?_) (fun h => ?_) <;> (fail_if_success (have : h = trivial := rfl)) <;> (fail_if_success (have : h = not_false := rfl)) <;> first | contradiction | (exfalso; omega) | (exfalso; revert h; simp; done) | skip) | (refine SL.W.guardB (fun h => ?_) (fun h => ?_) <;> (fail_if_success (have : h = (rfl : true = true) := rfl)) <;> (fail_if_success (have : h = (rfl : false = false) := rfl)))) | (refine SL.W.loud ?_; first | refine SL.W.load ?_ | refine SL.W.loadA ?_ | refine SL.W.store ?_ | refine SL.W.storeA ?_ | (refine SL.W.box ?_; intro b) | (refine SL.W.alloc ?_; intro b) | (refine SL.W.buildSlice ?_; intro b) | (refine SL.W.append ?_; intro a cap) | refine SL.W.bytesToStr ?_ | refine SL.W.pvn (SL.PV.toIntC (by rfl) (by first | exact SL.wrap_i64 (by omega) | exact SL.wrap_u8 (by omega) | exact SL.wrap_u32 (by omega) | exact SL.wrap_u64 (by omega) | rfl)) ?_ | (refine SL.W.makeSlice ?_; intro b) | refine SL.W.lookupOk ?_ | refine SL.W.lookup ?_ | (refine SL.W.makeMap ?_; intro b) | refine SL.W.mapUpdate ?_ | (refine SL.W.mapEntry ?_; intro stamp) | refine SL.W.entryStore ?_ | (refine SL.W.range ?_; intro it) | refine SL.W.delete ?_ | (refine SL.W.guardP (fun h => ?_) (fun h => ?_) <;> (fail_if_success (have : h = trivial := rfl)) <;> (fail_if_success (have : h = not_false := rfl)) <;> first | contradiction | (exfalso; omega) | (exfalso; revert h; simp; done) | skip) | (refine SL.W.guardB (fun h => ?_) (fun h => ?_) <;> (fail_if_success (have : h = (rfl : true = true) := rfl)) <;> (fail_if_success (have : h = (rfl : false = false) := rfl))))) | (refine SL.TK.is ?_; first | refine SL.TK.seq ?_ | refine SL.TK.region ?_ | refine SL.TK.regionD SL.mixed (by simp only [SL.falses] <;> rfl) ?_ | refine SL.TK.block ?_ | refine SL.TK.inBlock ?_ | refine SL.TK.skip ?_ | refine SL.TK.scope ?_ | refine SL.TK.inScope ?_ | refine SL.TK.label ?_ | refine SL.W.exit ?_ | refine SL.W.condT ?_ | refine SL.W.condF ?_ | (refine SL.W.condP (fun h => ?_) (fun h => ?_) <;> (fail_if_success (have : h = trivial := rfl)) <;> (fail_if_success (have : h = not_false := rfl)) <;> first | contradiction | (exfalso; omega) | (exfalso; revert h; simp; done) | skip) | refine SL.W.condB (fun h => ?_) (fun h => ?_)) | (refine SL.TD.is ?_; first | (refine SL.W.dfin ?_; simp only [List.append_nil, List.cons_append, List.nil_append]) | refine SL.W.dpass ?_ | refine SL.W.dpure ?_ | refine SL.W.dload ?_ | refine SL.W.dloadA ?_ | refine SL.W.dfrz ?_ | (refine SL.W.dthaw ?_; simp only [List.append_nil, List.cons_append, List.nil_append]) | (refine SL.W.dguardP (fun h => ?_) (fun h => ?_) <;> (fail_if_success (have : h = trivial := rfl)) <;> (fail_if_success (have : h = not_false := rfl)) <;> first | contradiction | (exfalso; omega) | (exfalso; revert h; simp; done) | skip) | (refine SL.W.dguardB (fun h => ?_) (fun h => ?_) <;> (fail_if_success (have : h = (rfl : true = true) := rfl)) <;> (fail_if_success (have : h = (rfl : false = false) := rfl))) | refine SL.W.done ?_ | refine SL.W.dtwo ?_ ?_ | refine SL.W.dthree ?_ ?_ ?_))
  all_goals exact SL.TK.retD Try.func24 (SL.Res.one rfl (by rfl)) ⟨rfl, rfl⟩ (EntD.frm (by first | ((repeat (first | exact SL.Frm.nil | exact SL.Frm.refl | (apply SL.Frm.cons; repeat (first | exact SL.Pick.head | apply SL.Pick.tail)))); done) | fail) (net_shut rfl) EntD.nil)

theorem sw_all {post : Post} {k : List Item} (W : World) (nb rb ab fb : Nat) (what kk bit : Int) (F : Fr) (sF : Option Addr × Nat) (f : Fr) (s : Option Addr × Nat) (l : List Fr) (v26 v27 v28 : Value) (hl : l.length ≤ 100) (hw : ∀ f ∈ l, f.bs.length ≤ 200) (hf : f.bs.length ≤ 200) (hbit : I64 bit)
    (hk : Hid (After W rb ab ⟨what, kk, bit, F, sF⟩ post k v26 v27 v28 l.length)) :
    TK Try.prog 5 Try.f5.ntmps post (.code (blkAt Try.f5 2) :: k) [(48, .int .i64 what), (3, .pointer (some ⟨nb, 0, none⟩)), (4, .pointer (some ⟨rb, 0, none⟩)), (6, .pointer (some ⟨ab, 0, none⟩)), (7, .pointer (some ⟨fb, 0, none⟩)), (8, .bool true), (26, v26), (27, v27), (28, v28)]
      [orig W, NetAt nb l, RefAt rb l, SL.blk ab 33 (actV ⟨what, kk, bit, F, sF⟩), SL.blk fb 31 (frV f s), byt s f.bs] := by
  by_cases h0 : what = 0
  · subst h0; exact sw0 W nb rb ab fb _ f s l v26 v27 v28 hl hw hf hk
  by_cases h4 : what = 4
  · subst h4; exact sw4 W nb rb ab fb kk bit F sF f s l v26 v27 v28 hl hw hbit hk
  by_cases h5 : what = 5
  · subst h5; exact sw5 W nb rb ab fb kk bit F sF f s l v26 v27 v28 hl hw hk
  by_cases hin : 0 ≤ kk ∧ kk < l.length
  · obtain ⟨kn, rfl⟩ := Int.eq_ofNat_of_zero_le hin.1
    have hkl : kn < l.length := by omega
    have hkc : l[kn]? = some l[kn] := List.getElem?_eq_getElem hkl
    by_cases h1 : what = 1
    · subst h1; exact sw1i W nb rb ab fb kn bit F sF f _ s l v26 v27 v28 hl hw hkc hk
    by_cases h2 : what = 2
    · subst h2; exact sw2i W nb rb ab fb kn bit F sF f _ s l v26 v27 v28 hl hw hkc hk
    by_cases h3 : what = 3
    · subst h3; exact sw3i W nb rb ab fb kn bit F sF f _ s l v26 v27 v28 hl hw hkc hk
    exact swx W nb rb ab fb what kn bit F sF f s l v26 v27 v28 hl hw h0 h1 h2 h3 h4 h5 hk
  · by_cases h1 : what = 1
    · subst h1; exact sw1o W nb rb ab fb kk bit F sF f s l v26 v27 v28 hl hw hin hk
    by_cases h2 : what = 2
    · subst h2; exact sw2o W nb rb ab fb kk bit F sF f s l v26 v27 v28 hl hw hin hk
    by_cases h3 : what = 3
    · subst h3; exact sw3o W nb rb ab fb kk bit F sF f s l v26 v27 v28 hl hw hin hk
    exact swx W nb rb ab fb what kk bit F sF f s l v26 v27 v28 hl hw h0 h1 h2 h3 h4 h5 hk

def playInv (W : World) (a : Option Addr) (cap rb : Nat) (As : List Act) (ρ : Env) (L : List HProp) (m : Nat) : Prop := ∃ (i nb : Nat) (l : List Fr), i ≤ As.length ∧ i ≤ 100 ∧ l.length ≤ i ∧ (∀ f ∈ l, f.bs.length ≤ 200) ∧
  ρ = [(3, .pointer (some ⟨nb, 0, none⟩)), (4, .pointer (some ⟨rb, 0, none⟩)), (26, .slice a As.length cap), (27, .int .i64 As.length), (28, .int .i64 i)] ∧
  L = [orig W, NetAt nb l, RefAt rb l] ∧ m = As.length - i

set_option maxHeartbeats 4000000 in
theorem plays_round {post : Post} {k : List Item} (W : World) (q : Addr) (cap nb rb i : Nat) (As : List Act) (l : List Fr) (what kk bit : Int) (F : Fr) (sF : Option Addr × Nat) (bs : List UInt8)
    (hlt : i < As.length) (hi99 : i < 100) (hl : l.length ≤ i) (hw : ∀ f ∈ l, f.bs.length ≤ 200) (hbit : I64 bit)
    (hmin : Hid (min (F.bs.length : Int) 200 = (bs.length : Int))) (hlen : bs.length ≤ F.bs.length) (h200 : bs.length ≤ 200) (hcap : F.bs.length ≤ sF.2) (hX : Rd (orig W) sF.1 sF.2 bs)
    (hAc : ∀ j x, (actV ⟨what, kk, bit, F, sF⟩)[j]? = some x → W.cell? ((q.add (i * 8)).add j) = some x)
    (ih : ∀ ρ' L' m', playInv W (some q) cap rb As ρ' L' m' → m' < As.length - i → TK Try.prog 5 Try.f5.ntmps post (.inLoop B5 :: k) ρ' L') :
    TK Try.prog 5 Try.f5.ntmps post (.code B5 :: .inLoop B5 :: k) [(3, .pointer (some ⟨nb, 0, none⟩)), (4, .pointer (some ⟨rb, 0, none⟩)), (26, .slice (some q) As.length cap), (27, .int .i64 As.length), (28, .int .i64 i)]
      [orig W, NetAt nb l, RefAt rb l] := by
  obtain ⟨c1, n1, c2, n2, bsF⟩ := F
  simp only at hmin hlen hcap
  have h1b := one_bytesL bs
  have hwH := Lib.hid hw
  have hcc : bs.length ≤ sF.2 := by omega
  clear hw
  repeat' (first | (refine SL.TO.is ?_; first | (refine SL.TO.door (o := ⟨_, .load _ _, _, _, _, _⟩) ?_; first | refine SL.W.loadOA hAc rfl ?_) | (refine SL.TO.door (o := ⟨_, .slice _ _ _ _ _, _, _, _, _⟩) ?_; first | refine SL.TO.pv (by rfl) rfl (SL.PV.sliceHi (hi := bs.length) (by rfl) (by rfl) hmin.out hcc) ?_) | (refine SL.TO.door (o := ⟨_, .call ⟨.value (.func 8), _, _⟩, _, _, _, _⟩) ?_; first | (refine SL.W.call (all_spec _ l' (by omega) (fun f h => Nat.le_trans (h2 f h) (by decide))) ?_; rintro _ _ ⟨al, cl, rfl, rfl⟩; try simp only [List.cons_append, List.nil_append])) | (refine SL.TO.door (o := ⟨_, .call ⟨.value (.func 24), _, _⟩, _, _, _, _⟩) ?_; first | (refine SL.W.call (lenP_spec _ _) ?_; rintro _ _ ⟨rfl, rfl⟩; try simp only [List.cons_append, List.nil_append])) | (refine SL.TO.door (o := ⟨_, .call ⟨.value (.func 25), _, _⟩, _, _, _, _⟩) ?_; first | (refine SL.W.call (to_spec _ _ _ l' (by omega)) ?_; rintro _ _ ⟨at1, ct1, rfl, rfl⟩; try simp only [List.cons_append, List.nil_append])) | refine SL.TO.nil ?_ | (refine SL.TO.nilD ?_; simp only [SL.setB]) | refine SL.W.pass ?_ | refine SL.W.pass0 ?_ | (refine SL.W.pure ?_; first | refine SL.W.pv ?_ | refine SL.W.pv0 ?_ | refine SL.W.lenMp ?_ | (refine SL.W.guardP (fun h => ?_) (fun h => ?_) <;> (fail_if_success (have : h = trivial := rfl)) <;> (fail_if_success (have : h = not_false := rfl)) <;> first | contradiction | (exfalso; omega) | (exfalso; revert h; simp; done) | skip) | (refine SL.W.guardB (fun h => ?_) (fun h => ?_) <;> (fail_if_success (have : h = (rfl : true = true) := rfl)) <;> (fail_if_success (have : h = (rfl : false = false) := rfl)))) | (refine SL.W.loud ?_; first | refine SL.W.load ?_ | refine SL.W.loadA ?_ | refine SL.W.store ?_ | refine SL.W.storeA ?_ | (refine SL.W.box ?_; intro b) | (refine SL.W.alloc ?_; intro b) | (refine SL.W.buildSlice ?_; intro b) | (refine SL.W.append ?_; intro a cap) | refine SL.W.bytesToStr ?_ | refine SL.W.pvn (SL.PV.toIntC (by rfl) (by first | exact SL.wrap_i64 (by omega) | exact SL.wrap_u8 (by omega) | exact SL.wrap_u32 (by omega) | exact SL.wrap_u64 (by omega) | rfl)) ?_ | (refine SL.W.makeSlice ?_; intro b) | refine SL.W.lookupOk ?_ | refine SL.W.lookup ?_ | (refine SL.W.makeMap ?_; intro b) | refine SL.W.mapUpdate ?_ | (refine SL.W.mapEntry ?_; intro stamp) | refine SL.W.entryStore ?_ | (refine SL.W.range ?_; intro it) | refine SL.W.delete ?_ | (refine SL.W.guardP (fun h => ?_) (fun h => ?_) <;> (fail_if_success (have : h = trivial := rfl)) <;> (fail_if_success (have : h = not_false := rfl)) <;> first | contradiction | (exfalso; omega) | (exfalso; revert h; simp; done) | skip) | (refine SL.W.guardB (fun h => ?_) (fun h => ?_) <;> (fail_if_success (have : h = (rfl : true = true) := rfl)) <;> (fail_if_success (have : h = (rfl : false = false) := rfl))))) | (refine SL.TK.lp ?_; first | refine SL.W.loop (plays_check _ _ _ _ _ _ _ _ _ what kk bit ⟨c1, n1, c2, n2, bsF⟩ sF l' _ _ _ _ _ (by omega) h2 rfl gs hG ?_)) | (refine SL.TK.bk ?_; first | (refine SL.W.loop (sw_all W nb rb _ _ what kk bit ⟨c1, n1, c2, n2, bsF⟩ sF ⟨c1, n1, c2, n2, bs⟩ (_, _) l _ _ _ (by omega) hwH.out h200 hbit (Lib.hid (fun nb' l' h1 h2 => ?_))); refine SL.TK.openRef (by first | ((repeat (first | exact SL.Pick.head | apply SL.Pick.tail)); done) | fail) (fun ra rc gs hgs => ?_); have hG := Lib.hid hgs; clear hgs)) | (refine SL.TK.is ?_; first | refine SL.TK.seq ?_ | refine SL.TK.region ?_ | refine SL.TK.regionD SL.mixed (by simp only [SL.falses] <;> rfl) ?_ | refine SL.TK.block ?_ | refine SL.TK.inBlock ?_ | refine SL.TK.skip ?_ | refine SL.TK.scope ?_ | refine SL.TK.inScope ?_ | refine SL.TK.label ?_ | refine SL.W.exit ?_ | refine SL.W.condT ?_ | refine SL.W.condF ?_ | (refine SL.W.condP (fun h => ?_) (fun h => ?_) <;> (fail_if_success (have : h = trivial := rfl)) <;> (fail_if_success (have : h = not_false := rfl)) <;> first | contradiction | (exfalso; omega) | (exfalso; revert h; simp; done) | skip) | refine SL.W.condB (fun h => ?_) (fun h => ?_)) | (refine SL.TD.is ?_; first | (refine SL.W.dfin ?_; simp only [List.append_nil, List.cons_append, List.nil_append]) | refine SL.W.dpass ?_ | refine SL.W.dpure ?_ | refine SL.W.dload ?_ | refine SL.W.dloadA ?_ | refine SL.W.dfrz ?_ | (refine SL.W.dthaw ?_; simp only [List.append_nil, List.cons_append, List.nil_append]) | (refine SL.W.dguardP (fun h => ?_) (fun h => ?_) <;> (fail_if_success (have : h = trivial := rfl)) <;> (fail_if_success (have : h = not_false := rfl)) <;> first | contradiction | (exfalso; omega) | (exfalso; revert h; simp; done) | skip) | (refine SL.W.dguardB (fun h => ?_) (fun h => ?_) <;> (fail_if_success (have : h = (rfl : true = true) := rfl)) <;> (fail_if_success (have : h = (rfl : false = false) := rfl))) | refine SL.W.done ?_ | refine SL.W.dtwo ?_ ?_ | refine SL.W.dthree ?_ ?_ ?_))
  all_goals
    refine SL.TK.againD ih ⟨i + 1, nb', l', by omega, by omega, by omega, h2, rfl, rfl, rfl⟩ (by first | ((repeat (first | exact SL.Sub.nil | refine SL.Sub.cons (by rfl) (by first | rfl | exact SL.int_eq (by omega)) ?_)); done) | fail) ?_ (by omega)
    exact EntD.cons (by first | ((repeat (first | exact SL.Pick.head | apply SL.Pick.tail)); done) | fail) (EntD.cons (by first | ((repeat (first | exact SL.Pick.head | apply SL.Pick.tail)); done) | fail) (EntD.cons (by first | ((repeat (first | exact SL.Pick.head | apply SL.Pick.tail)); done) | fail) EntD.nil))

set_option maxHeartbeats 2000000 in
theorem plays_loop {post : Post} {k : List Item} (W : World) (a : Option Addr) (cap nb rb : Nat) (As : List Act) (ha : a = none → As = [])
    (hcell : Hid (∀ q, a = some q → ∀ i A, As[i]? = some A → ActOk W A ∧ ∀ j x, (actV A)[j]? = some x → W.cell? ((q.add (i * 8)).add j) = some x))
    (hk : TK Try.prog 5 Try.f5.ntmps post k [] [orig W]) :
    TK Try.prog 5 Try.f5.ntmps post (.code (loopAt Try.f5 0) :: k) [(3, .pointer (some ⟨nb, 0, none⟩)), (4, .pointer (some ⟨rb, 0, none⟩)), (26, .slice a As.length cap), (27, .int .i64 As.length), (28, .int .i64 0)]
      [orig W, NetAt nb [], RefAt rb []] := by
  refine SL.TK.block ?_
  refine SL.TK.loopD (playInv W a cap rb As) ?_ ⟨0, nb, [], Nat.zero_le _, by omega, by simp, by simp, rfl, rfl, rfl⟩ (by first | ((repeat (first | exact SL.Sub.nil | refine SL.Sub.cons (by rfl) (by first | rfl | exact SL.int_eq (by omega)) ?_)); done) | fail) EntD.refl
  rintro ρ L m ⟨i, nb, l, hi, hi100, hl, hw, rfl, rfl, rfl⟩ ih
  have hK := Lib.hid hk
  clear hk
  by_cases hlt : i < As.length
  · obtain ⟨q, rfl⟩ : ∃ q, a = some q := by
      cases a with
      | none => rw [ha rfl] at hlt; simp at hlt
      | some q => exact ⟨q, rfl⟩
    obtain ⟨hA, hAc⟩ := hcell.out q rfl i As[i] (List.getElem?_eq_getElem hlt)
    generalize As[i] = A at hA hAc
    obtain ⟨what, kk, bit, f, s⟩ := A
    by_cases h99 : i = 100
    · clear hcell ih hA hw
      repeat' (first | (refine SL.TO.is ?_; first | (refine SL.TO.door (o := ⟨_, .load _ _, _, _, _, _⟩) ?_; first | refine SL.W.loadOA hAc rfl ?_) | refine SL.TO.nil ?_ | (refine SL.TO.nilD ?_; simp only [SL.setB]) | refine SL.W.pass ?_ | refine SL.W.pass0 ?_ | (refine SL.W.pure ?_; first | refine SL.W.pv ?_ | refine SL.W.pv0 ?_ | refine SL.W.lenMp ?_ | (refine SL.W.guardP (fun h => ?_) (fun h => ?_) <;> (fail_if_success (have : h = trivial := rfl)) <;> (fail_if_success (have : h = not_false := rfl)) <;> first | contradiction | (exfalso; omega) | (exfalso; revert h; simp; done) | skip) | (refine SL.W.guardB (fun h => ?_) (fun h => ?_) <;> (fail_if_success (have : h = (rfl : true = true) := rfl)) <;> (fail_if_success (have : h = (rfl : false = false) := rfl)))) | (refine SL.W.loud ?_; first | refine SL.W.load ?_ | refine SL.W.loadA ?_ | refine SL.W.store ?_ | refine SL.W.storeA ?_ | (refine SL.W.box ?_; intro b) | (refine SL.W.alloc ?_; intro b) | (refine SL.W.buildSlice ?_; intro b) | (refine SL.W.append ?_; intro a cap) | refine SL.W.bytesToStr ?_ | refine SL.W.pvn (SL.PV.toIntC (by rfl) (by first | exact SL.wrap_i64 (by omega) | exact SL.wrap_u8 (by omega) | exact SL.wrap_u32 (by omega) | exact SL.wrap_u64 (by omega) | rfl)) ?_ | (refine SL.W.makeSlice ?_; intro b) | refine SL.W.lookupOk ?_ | refine SL.W.lookup ?_ | (refine SL.W.makeMap ?_; intro b) | refine SL.W.mapUpdate ?_ | (refine SL.W.mapEntry ?_; intro stamp) | refine SL.W.entryStore ?_ | (refine SL.W.range ?_; intro it) | refine SL.W.delete ?_ | (refine SL.W.guardP (fun h => ?_) (fun h => ?_) <;> (fail_if_success (have : h = trivial := rfl)) <;> (fail_if_success (have : h = not_false := rfl)) <;> first | contradiction | (exfalso; omega) | (exfalso; revert h; simp; done) | skip) | (refine SL.W.guardB (fun h => ?_) (fun h => ?_) <;> (fail_if_success (have : h = (rfl : true = true) := rfl)) <;> (fail_if_success (have : h = (rfl : false = false) := rfl))))) | (refine SL.TK.is ?_; first | (refine SL.TK.weakD SL.Sub.nil ?_ hK.out; exact EntD.cons (by first | ((repeat (first | exact SL.Pick.head | apply SL.Pick.tail)); done) | fail) EntD.nil) | refine SL.TK.seq ?_ | refine SL.TK.region ?_ | refine SL.TK.regionD SL.mixed (by simp only [SL.falses] <;> rfl) ?_ | refine SL.TK.block ?_ | refine SL.TK.inBlock ?_ | refine SL.TK.skip ?_ | refine SL.TK.scope ?_ | refine SL.TK.inScope ?_ | refine SL.TK.label ?_ | refine SL.W.exit ?_ | refine SL.W.condT ?_ | refine SL.W.condF ?_ | (refine SL.W.condP (fun h => ?_) (fun h => ?_) <;> (fail_if_success (have : h = trivial := rfl)) <;> (fail_if_success (have : h = not_false := rfl)) <;> first | contradiction | (exfalso; omega) | (exfalso; revert h; simp; done) | skip) | refine SL.W.condB (fun h => ?_) (fun h => ?_)) | (refine SL.TD.is ?_; first | (refine SL.W.dfin ?_; simp only [List.append_nil, List.cons_append, List.nil_append]) | refine SL.W.dpass ?_ | refine SL.W.dpure ?_ | refine SL.W.dload ?_ | refine SL.W.dloadA ?_ | refine SL.W.dfrz ?_ | (refine SL.W.dthaw ?_; simp only [List.append_nil, List.cons_append, List.nil_append]) | (refine SL.W.dguardP (fun h => ?_) (fun h => ?_) <;> (fail_if_success (have : h = trivial := rfl)) <;> (fail_if_success (have : h = not_false := rfl)) <;> first | contradiction | (exfalso; omega) | (exfalso; revert h; simp; done) | skip) | (refine SL.W.dguardB (fun h => ?_) (fun h => ?_) <;> (fail_if_success (have : h = (rfl : true = true) := rfl)) <;> (fail_if_success (have : h = (rfl : false = false) := rfl))) | refine SL.W.done ?_ | refine SL.W.dtwo ?_ ?_ | refine SL.W.dthree ?_ ?_ ?_))
    · have hlen : (f.bs.take 200).length = min 200 f.bs.length := List.length_take ..
      have hX : Rd (orig W) s.1 s.2 (f.bs.take 200) := Rd.came hA.nil hA.cells
      exact plays_round W q cap nb rb i As l what kk bit f s (f.bs.take 200) hlt (by omega) hl hw hA.bit (Lib.hid (by omega)) (by omega) (by omega) hA.cap hX hAc ih
  · have hil : i = As.length := by omega
    clear hcell ih hw
    repeat' (first | (refine SL.TO.is ?_; first | refine SL.TO.nil ?_ | (refine SL.TO.nilD ?_; simp only [SL.setB]) | refine SL.W.pass ?_ | refine SL.W.pass0 ?_ | (refine SL.W.pure ?_; first | refine SL.W.pv ?_ | refine SL.W.pv0 ?_ | refine SL.W.lenMp ?_ | (refine SL.W.guardP (fun h => ?_) (fun h => ?_) <;> (fail_if_success (have : h = trivial := rfl)) <;> (fail_if_success (have : h = not_false := rfl)) <;> first | contradiction | (exfalso; omega) | (exfalso; revert h; simp; done) | skip) | (refine SL.W.guardB (fun h => ?_) (fun h => ?_) <;> (fail_if_success (have : h = (rfl : true = true) := rfl)) <;> (fail_if_success (have : h = (rfl : false = false) := rfl)))) | (refine SL.W.loud ?_; first | refine SL.W.load ?_ | refine SL.W.loadA ?_ | refine SL.W.store ?_ | refine SL.W.storeA ?_ | (refine SL.W.box ?_; intro b) | (refine SL.W.alloc ?_; intro b) | (refine SL.W.buildSlice ?_; intro b) | (refine SL.W.append ?_; intro a cap) | refine SL.W.bytesToStr ?_ | refine SL.W.pvn (SL.PV.toIntC (by rfl) (by first | exact SL.wrap_i64 (by omega) | exact SL.wrap_u8 (by omega) | exact SL.wrap_u32 (by omega) | exact SL.wrap_u64 (by omega) | rfl)) ?_ | (refine SL.W.makeSlice ?_; intro b) | refine SL.W.lookupOk ?_ | refine SL.W.lookup ?_ | (refine SL.W.makeMap ?_; intro b) | refine SL.W.mapUpdate ?_ | (refine SL.W.mapEntry ?_; intro stamp) | refine SL.W.entryStore ?_ | (refine SL.W.range ?_; intro it) | refine SL.W.delete ?_ | (refine SL.W.guardP (fun h => ?_) (fun h => ?_) <;> (fail_if_success (have : h = trivial := rfl)) <;> (fail_if_success (have : h = not_false := rfl)) <;> first | contradiction | (exfalso; omega) | (exfalso; revert h; simp; done) | skip) | (refine SL.W.guardB (fun h => ?_) (fun h => ?_) <;> (fail_if_success (have : h = (rfl : true = true) := rfl)) <;> (fail_if_success (have : h = (rfl : false = false) := rfl))))) | (refine SL.TK.is ?_; first | (refine SL.TK.weakD SL.Sub.nil ?_ hK.out; exact EntD.cons (by first | ((repeat (first | exact SL.Pick.head | apply SL.Pick.tail)); done) | fail) EntD.nil) | refine SL.TK.seq ?_ | refine SL.TK.region ?_ | refine SL.TK.regionD SL.mixed (by simp only [SL.falses] <;> rfl) ?_ | refine SL.TK.block ?_ | refine SL.TK.inBlock ?_ | refine SL.TK.skip ?_ | refine SL.TK.scope ?_ | refine SL.TK.inScope ?_ | refine SL.TK.label ?_ | refine SL.W.exit ?_ | refine SL.W.condT ?_ | refine SL.W.condF ?_ | (refine SL.W.condP (fun h => ?_) (fun h => ?_) <;> (fail_if_success (have : h = trivial := rfl)) <;> (fail_if_success (have : h = not_false := rfl)) <;> first | contradiction | (exfalso; omega) | (exfalso; revert h; simp; done) | skip) | refine SL.W.condB (fun h => ?_) (fun h => ?_)) | (refine SL.TD.is ?_; first | (refine SL.W.dfin ?_; simp only [List.append_nil, List.cons_append, List.nil_append]) | refine SL.W.dpass ?_ | refine SL.W.dpure ?_ | refine SL.W.dload ?_ | refine SL.W.dloadA ?_ | refine SL.W.dfrz ?_ | (refine SL.W.dthaw ?_; simp only [List.append_nil, List.cons_append, List.nil_append]) | (refine SL.W.dguardP (fun h => ?_) (fun h => ?_) <;> (fail_if_success (have : h = trivial := rfl)) <;> (fail_if_success (have : h = not_false := rfl)) <;> first | contradiction | (exfalso; omega) | (exfalso; revert h; simp; done) | skip) | (refine SL.W.dguardB (fun h => ?_) (fun h => ?_) <;> (fail_if_success (have : h = (rfl : true = true) := rfl)) <;> (fail_if_success (have : h = (rfl : false = false) := rfl))) | refine SL.W.done ?_ | refine SL.W.dtwo ?_ ?_ | refine SL.W.dthree ?_ ?_ ?_))

theorem plays_spec (W : World) (a : Option Addr) (cap : Nat) (As : List Act) (ha : a = none → As = [])
    (hcell : ∀ q, a = some q → ∀ i A, As[i]? = some A → ActOk W A ∧ ∀ j x, (actV A)[j]? = some x → W.cell? ((q.add (i * 8)).add j) = some x) :
    Spec Try.prog 5 [.slice a As.length cap] [orig W] (fun r L => r = .bool true ∧ L = [orig W]) := by
  have hH := Lib.hid hcell
  clear hcell
  refine SL.Spec.of_TK Go.Proofs.Try.func5 rfl rfl SL.call5 rfl ?_
  repeat' (first | (refine SL.TO.is ?_; first | (refine SL.TO.door (o := ⟨_, .call ⟨.value (.func 7), _, _⟩, _, _, _, _⟩) ?_; first | (refine SL.W.call (new_spec) ?_; rintro _ _ ⟨nb, rfl, rfl⟩; try simp only [List.cons_append, List.nil_append])) | (refine SL.TO.door (o := ⟨_, .call ⟨.value (.func 15), _, _⟩, _, _, _, _⟩) ?_; first | (refine SL.W.call (awake_spec) ?_; rintro _ _ ⟨rfl, rfl⟩; try simp only [List.cons_append, List.nil_append])) | refine SL.TO.nil ?_ | (refine SL.TO.nilD ?_; simp only [SL.setB]) | refine SL.W.pass ?_ | refine SL.W.pass0 ?_ | (refine SL.W.pure ?_; first | refine SL.W.pv ?_ | refine SL.W.pv0 ?_ | refine SL.W.lenMp ?_ | (refine SL.W.guardP (fun h => ?_) (fun h => ?_) <;> (fail_if_success (have : h = trivial := rfl)) <;> (fail_if_success (have : h = not_false := rfl)) <;> first | contradiction | (exfalso; omega) | (exfalso; revert h; simp; done) | skip) | (refine SL.W.guardB (fun h => ?_) (fun h => ?_) <;> (fail_if_success (have : h = (rfl : true = true) := rfl)) <;> (fail_if_success (have : h = (rfl : false = false) := rfl)))) | (refine SL.W.loud ?_; first | refine SL.W.load ?_ | refine SL.W.loadA ?_ | refine SL.W.store ?_ | refine SL.W.storeA ?_ | (refine SL.W.box ?_; intro b) | (refine SL.W.alloc ?_; intro b) | (refine SL.W.buildSlice ?_; intro b) | (refine SL.W.append ?_; intro a cap) | refine SL.W.bytesToStr ?_ | refine SL.W.pvn (SL.PV.toIntC (by rfl) (by first | exact SL.wrap_i64 (by omega) | exact SL.wrap_u8 (by omega) | exact SL.wrap_u32 (by omega) | exact SL.wrap_u64 (by omega) | rfl)) ?_ | (refine SL.W.makeSlice ?_; intro b) | refine SL.W.lookupOk ?_ | refine SL.W.lookup ?_ | (refine SL.W.makeMap ?_; intro b) | refine SL.W.mapUpdate ?_ | (refine SL.W.mapEntry ?_; intro stamp) | refine SL.W.entryStore ?_ | (refine SL.W.range ?_; intro it) | refine SL.W.delete ?_ | (refine SL.W.guardP (fun h => ?_) (fun h => ?_) <;> (fail_if_success (have : h = trivial := rfl)) <;> (fail_if_success (have : h = not_false := rfl)) <;> first | contradiction | (exfalso; omega) | (exfalso; revert h; simp; done) | skip) | (refine SL.W.guardB (fun h => ?_) (fun h => ?_) <;> (fail_if_success (have : h = (rfl : true = true) := rfl)) <;> (fail_if_success (have : h = (rfl : false = false) := rfl))))) | (refine SL.TK.lp ?_; first | (refine SL.TK.entD (EntD.of_ent (Ent.own_nil (e := 53) (sz := 5) Ent.refl)) ?_; refine SL.TK.entD (L' := [orig W, NetAt nb [], RefAt _ []]) (EntD.cons (by first | ((repeat (first | exact SL.Pick.head | apply SL.Pick.tail)); done) | fail) (EntD.cons (by first | ((repeat (first | exact SL.Pick.head | apply SL.Pick.tail)); done) | fail) (EntD.frm (by first | ((repeat (first | exact SL.Frm.nil | exact SL.Frm.refl | (apply SL.Frm.cons; repeat (first | exact SL.Pick.head | apply SL.Pick.tail)))); done) | fail) ref_none EntD.nil))) ?_; refine SL.W.loop (plays_loop W a cap nb _ As ha hH ?_))) | (refine SL.TK.is ?_; first | refine SL.TK.seq ?_ | refine SL.TK.region ?_ | refine SL.TK.regionD SL.mixed (by simp only [SL.falses] <;> rfl) ?_ | refine SL.TK.block ?_ | refine SL.TK.inBlock ?_ | refine SL.TK.skip ?_ | refine SL.TK.scope ?_ | refine SL.TK.inScope ?_ | refine SL.TK.label ?_ | refine SL.W.exit ?_ | refine SL.W.condT ?_ | refine SL.W.condF ?_ | (refine SL.W.condP (fun h => ?_) (fun h => ?_) <;> (fail_if_success (have : h = trivial := rfl)) <;> (fail_if_success (have : h = not_false := rfl)) <;> first | contradiction | (exfalso; omega) | (exfalso; revert h; simp; done) | skip) | refine SL.W.condB (fun h => ?_) (fun h => ?_)) | (refine SL.TD.is ?_; first | (refine SL.W.dfin ?_; simp only [List.append_nil, List.cons_append, List.nil_append]) | refine SL.W.dpass ?_ | refine SL.W.dpure ?_ | refine SL.W.dload ?_ | refine SL.W.dloadA ?_ | refine SL.W.dfrz ?_ | (refine SL.W.dthaw ?_; simp only [List.append_nil, List.cons_append, List.nil_append]) | (refine SL.W.dguardP (fun h => ?_) (fun h => ?_) <;> (fail_if_success (have : h = trivial := rfl)) <;> (fail_if_success (have : h = not_false := rfl)) <;> first | contradiction | (exfalso; omega) | (exfalso; revert h; simp; done) | skip) | (refine SL.W.dguardB (fun h => ?_) (fun h => ?_) <;> (fail_if_success (have : h = (rfl : true = true) := rfl)) <;> (fail_if_success (have : h = (rfl : false = false) := rfl))) | refine SL.W.done ?_ | refine SL.W.dtwo ?_ ?_ | refine SL.W.dthree ?_ ?_ ?_))
  exact SL.TK.retD Try.func5 (SL.Res.one rfl (by rfl)) ⟨rfl, rfl⟩ EntD.refl
end SL

namespace Go.Proofs.Ytidogcbcknpdiaa.netPlays
open Go.ChangeShapes Go.WideShapes Go.ChangeAt Go.RowKit

theorem own : ownKnob Try.prog.godebug = none := by kernel_rfl
theorem laid : laidOutB Try.prog = true := by kernel_rfl

theorem contract (H : Type) (enc : TypeId × Value → H) (W : World) (base : Nat) (args : Array Value) (ds gs : List (DataW H)) (before : List MemPlace)
    (hval : ∀ (j : Nat) t v, Try.f5.params[j]? = some t → args[j]? = some v → Value.okWide Try.prog W .any base t v)
    (hW : DataW.Whole enc Try.prog Try.f5.params.toList Rows.netPlaysSpec.vars false W args.toList ds gs before) :
    Calls Try.prog 5 args W fun e W' => ∃ v, e = .returned v ∧ Rows.netPlaysSpec.post enc Try.prog Try.f5 false true false false W args v W' := by
  have hW' := hW
  obtain ⟨p, q, hA0, hV, rfl, hfz, hnd⟩ := hW
  have hA : DataW.TrodAll enc Try.prog W 0 (fun _ => true) true Try.f5.params.toList args.toList ds p := hA0
  rw [Try.params5] at hA hval
  obtain ⟨v0, vs0, d0, ds0, p0, q0, hargs, rfl, rfl, h0, r0⟩ := trodAll_cons hA
  obtain ⟨rfl, rfl, rfl⟩ := trodAll_nil r0
  obtain rfl : args = #[v0] := by cases args; simp_all
  obtain ⟨rfl, rfl⟩ := trodVars_none hV
  refine SL.law_calls (ds := [d0]) (gs := []) laid (by kernel_rfl) rfl rfl rfl (by kernel_rfl) hW' ?_
  obtain ⟨a, cap, As, rfl, hc, hm, hn, hcell⟩ := SL.acts_in (hval 0 22 v0 rfl rfl) h0
  exact SL.plays_spec W a cap As hn hcell

set_option maxRecDepth 100000 in
theorem lifted (os : Os) (started : os.Started) (H : Type) (enc : TypeId × Value → H) :
    ReturnsInHanded {} Try.checked os 5 .any (Rows.netPlaysSpec.pre6 enc Try.prog Try.f5 [] false) (Rows.netPlaysSpec.post enc Try.prog Try.f5 false true false false) := by
  refine returnsInHanded_of_change own started (by kernel_rfl) Try.func5
    (ChangeSpec.witness6 false ⟨#[], #[.slice none 0 0], []⟩ 8 (by kernel_rfl) (by kernel_rfl) (by kernel_rfl) (by kernel_rfl)) ?_
  intro W base args ds gs before hval hW _ _
  exact contract H enc W base args ds gs before hval hW

theorem proved : Rows.NetPlaysSaid :=
  OpenClaim.holds_of_wide 5 Try.f5 rfl rfl rfl rfl rfl rfl rfl ⟨rfl, rfl, rfl, rfl, rfl⟩ rfl rfl rfl rfl rfl (by kernel_rfl) Try.func5 (by kernel_rfl)
    (of_decide_eq_true (by kernel_rfl)) (by unfold Func.isWrapper; first | (rw [if_pos (by decide +kernel)]; kernel_rfl) | (rw [if_neg (by decide +kernel)]; exact ⟨rfl, rfl⟩))
    (fun os started H enc _ => lifted os started H enc)
end Go.Proofs.Ytidogcbcknpdiaa.netPlays
