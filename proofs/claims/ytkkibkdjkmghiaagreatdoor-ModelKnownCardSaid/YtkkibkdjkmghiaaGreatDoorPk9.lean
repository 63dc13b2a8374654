/-
  Contracts and rules for what the last text proves.
-/
import Derived.Test.YtkkibkdjkmghiaaGreatDoorPk8
section
set_option linter.unusedVariables false
set_option linter.unusedSimpArgs false
set_option maxRecDepth 10000
namespace SL
open Go Go.Proofs Go.RowKit
def readF : Nat → List UInt8 → Nat
  | 0, _ => 0
  | f + 1, bs => if (firstU bs).2 = 0 then 0 else (firstU bs).2.toNat + readF f (bs.drop (firstU bs).2.toNat)
def readU (bs : List UInt8) : Nat := readF (bs.length + 1) bs
def decU (bs : List UInt8) : Int := if (readU bs : Int) < bs.length then 21 else 0
def mayN (bs : List UInt8) : Bool := decide (decU bs = 0 ∧ bs ≠ [] ∧ bs.length ≤ 64)
attribute [local irreducible] SL.TK SL.TO SL.TD SL.PV SL.Pick SL.Frm SL.Ent SL.Sub SL.EvAll SL.seps SL.sep SL.Cut SL.PutAt SL.blk SL.EvP SL.Fill SL.Src SL.EntD SL.own SL.ex SL.fact SL.orig
theorem utfFirst_nil (a : Option Addr) (cap : Nat) : Spec Tryz.prog 130 [.slice a 0 cap] [] (fun r L => r = .tuple #[.int .i32 0, .int .i64 0] ∧ L = []) := by
  refine SL.Spec.of_TK Go.Proofs.Tryz.func130 rfl rfl SL.call130 rfl ?_
  repeat' (first | (refine SL.TO.is ?_; first | (refine SL.W.quick ?_; first | refine SL.W.pass ?_ | refine SL.W.pv ?_ | refine SL.W.pv0 ?_) | refine SL.TO.nil ?_ | (refine SL.TO.nilD ?_; simp only [SL.setB]) | refine SL.W.pass ?_ | refine SL.W.pass0 ?_ | (refine SL.W.pure ?_; first | refine SL.W.pv ?_ | refine SL.W.pv0 ?_) | (refine SL.W.loud ?_; first | refine SL.W.load ?_ | refine SL.W.loadA ?_ | refine SL.W.store ?_ | refine SL.W.storeA ?_ | (refine SL.W.box ?_; intro b) | (refine SL.W.alloc ?_; intro b) | (refine SL.W.buildSlice ?_; intro b) | (refine SL.W.append ?_; intro a cap) | refine SL.W.bytesToStr ?_ | refine SL.W.toIntC ?_ | (refine SL.W.makeSlice ?_; intro b))) | (refine SL.TK.is ?_; first | refine SL.TK.seq ?_ | refine SL.TK.region ?_ | refine SL.TK.regionD SL.mixed (by simp only [SL.falses] <;> rfl) ?_ | refine SL.TK.block ?_ | refine SL.TK.inBlock ?_ | refine SL.TK.skip ?_ | refine SL.TK.scope ?_ | refine SL.TK.inScope ?_ | refine SL.TK.label ?_ | (refine SL.TK.isExit ?_; refine SL.W.exit ?_) | refine SL.W.condT ?_ | refine SL.W.condF ?_) | (refine SL.TD.is ?_; first | (refine SL.W.dfin ?_; simp only [SL.aps]) | refine SL.W.dpass ?_ | refine SL.W.dpure ?_ | refine SL.W.dload ?_ | refine SL.W.dloadA ?_ | refine SL.W.dfrz ?_ | (refine SL.W.dthaw ?_; simp only [SL.aps])) | ((first | refine SL.W.guardP (fun h => ?_) (fun h => ?_) | refine SL.W.condP (fun h => ?_) (fun h => ?_) | refine SL.W.dguardP (fun h => ?_) (fun h => ?_)) <;> (fail_if_success (have : h = trivial := rfl)) <;> (fail_if_success (have : h = not_false := rfl)) <;> first | contradiction | (exfalso; omega) | (exfalso; revert h; simp; done) | skip) | ((first | refine SL.W.guardB (fun h => ?_) (fun h => ?_) | refine SL.W.dguardB (fun h => ?_) (fun h => ?_)) <;> (fail_if_success (have : h = (rfl : true = true) := rfl)) <;> (fail_if_success (have : h = (rfl : false = false) := rfl))) | refine SL.W.condB (fun h => ?_) (fun h => ?_) | (refine SL.TD.is ?_; first | refine SL.W.done ?_ | refine SL.W.dtwo ?_ ?_ | refine SL.W.dthree ?_ ?_ ?_))
  exact SL.TK.retD Tryz.func130 (SL.Res.two rfl (by rfl) (by rfl)) ⟨rfl, rfl⟩ EntD.nil
def rdI (X Y : HProp) (q : Addr) (cap : Nat) (bs : List UInt8) (ρ : Env) (L : List HProp) (me : Nat) : Prop := ∃ (at_ f m c : Nat) (a : Option Addr) (cs : List Value), at_ ≤ bs.length ∧ m ≤ at_ ∧ bs.length - at_ < f ∧ readU bs = at_ + readF f (bs.drop at_) ∧
  ρ = [(0, .slice (some q) bs.length cap), (4, .slice a m c), (5, .int .i64 at_)] ∧ L = [X, Y, own 161 1 a m c cs] ∧ me = bs.length - at_
set_option maxHeartbeats 1000000 in
theorem utfRead_spec {X Y : HProp} (hY : FormsIn Y) (q : Addr) (cap : Nat) (bs : List UInt8) (hX : RdB X (some q) bs) (hc : bs.length ≤ cap) (hl : bs.length ≤ 1000000000) :
    Spec Tryz.prog 95 [.slice (some q) bs.length cap] [X, Y] (fun r L => ∃ v, r = .tuple #[v, .int .i64 (readU bs)] ∧ L = [X, Y]) := by
  refine SL.Spec.of_TK Go.Proofs.Tryz.func95 rfl rfl SL.call95 rfl ?_
  repeat' (first | (refine SL.TO.is ?_; first | (refine SL.W.quick ?_; first | refine SL.W.pass ?_ | refine SL.W.pv ?_ | refine SL.W.pv0 ?_) | refine SL.TO.nil ?_ | (refine SL.TO.nilD ?_; simp only [SL.setB]) | refine SL.W.pass ?_ | refine SL.W.pass0 ?_ | (refine SL.W.pure ?_; first | refine SL.W.pv ?_ | refine SL.W.pv0 ?_) | (refine SL.W.loud ?_; first | refine SL.W.load ?_ | refine SL.W.loadA ?_ | refine SL.W.store ?_ | refine SL.W.storeA ?_ | (refine SL.W.box ?_; intro b) | (refine SL.W.alloc ?_; intro b) | (refine SL.W.buildSlice ?_; intro b) | (refine SL.W.append ?_; intro a cap) | refine SL.W.bytesToStr ?_ | refine SL.W.toIntC ?_ | (refine SL.W.makeSlice ?_; intro b))) | (refine SL.TK.lp ?_; first | (refine SL.TK.entD (L' := [X, Y, own 161 1 none 0 0 []]) (EntD.trans (EntD.of_ent (Ent.own_nil Ent.refl)) (EntD.cons (by first | ((repeat (first | exact SL.Pick.head | apply SL.Pick.tail)); done) | fail) (EntD.cons (by first | ((repeat (first | exact SL.Pick.head | apply SL.Pick.tail)); done) | fail) (EntD.cons (by first | ((repeat (first | exact SL.Pick.head | apply SL.Pick.tail)); done) | fail) EntD.nil)))) ?_; refine SL.TK.block ?_; refine SL.TK.loopD (rdI X Y q cap bs) ?_ ⟨0, bs.length + 1, 0, 0, none, [], Nat.zero_le _, Nat.le_refl _, by omega, by simp [readU], rfl, rfl, rfl⟩ (by first | ((repeat (first | exact SL.Sub.nil | refine SL.Sub.cons (by rfl) (by first | rfl | exact SL.int_eq (by omega)) ?_)); done) | fail) (EntD.cons (by first | ((repeat (first | exact SL.Pick.head | apply SL.Pick.tail)); done) | fail) (EntD.cons (by first | ((repeat (first | exact SL.Pick.head | apply SL.Pick.tail)); done) | fail) (EntD.cons (by first | ((repeat (first | exact SL.Pick.head | apply SL.Pick.tail)); done) | fail) EntD.nil))))) | (refine SL.TK.is ?_; first | refine SL.TK.seq ?_ | refine SL.TK.region ?_ | refine SL.TK.regionD SL.mixed (by simp only [SL.falses] <;> rfl) ?_ | refine SL.TK.block ?_ | refine SL.TK.inBlock ?_ | refine SL.TK.skip ?_ | refine SL.TK.scope ?_ | refine SL.TK.inScope ?_ | refine SL.TK.label ?_ | (refine SL.TK.isExit ?_; refine SL.W.exit ?_) | refine SL.W.condT ?_ | refine SL.W.condF ?_) | (refine SL.TD.is ?_; first | (refine SL.W.dfin ?_; simp only [SL.aps]) | refine SL.W.dpass ?_ | refine SL.W.dpure ?_ | refine SL.W.dload ?_ | refine SL.W.dloadA ?_ | refine SL.W.dfrz ?_ | (refine SL.W.dthaw ?_; simp only [SL.aps])) | ((first | refine SL.W.guardP (fun h => ?_) (fun h => ?_) | refine SL.W.condP (fun h => ?_) (fun h => ?_) | refine SL.W.dguardP (fun h => ?_) (fun h => ?_)) <;> (fail_if_success (have : h = trivial := rfl)) <;> (fail_if_success (have : h = not_false := rfl)) <;> first | contradiction | (exfalso; omega) | (exfalso; revert h; simp; done) | skip) | ((first | refine SL.W.guardB (fun h => ?_) (fun h => ?_) | refine SL.W.dguardB (fun h => ?_) (fun h => ?_)) <;> (fail_if_success (have : h = (rfl : true = true) := rfl)) <;> (fail_if_success (have : h = (rfl : false = false) := rfl))) | refine SL.W.condB (fun h => ?_) (fun h => ?_) | (refine SL.TD.is ?_; first | refine SL.W.done ?_ | refine SL.W.dtwo ?_ ?_ | refine SL.W.dthree ?_ ?_ ?_))
  rintro ρ L me ⟨at_, f, m, c, a, cs, hat, hm, hf, he, rfl, rfl, rfl⟩ ih
  obtain ⟨f, rfl⟩ : ∃ g, f = g + 1 := ⟨f - 1, by omega⟩
  have hb := firstU_le (bs.drop at_)
  rw [List.length_drop] at hb
  have hstep : readF (f + 1) (bs.drop at_) = if (firstU (bs.drop at_)).2 = 0 then 0 else (firstU (bs.drop at_)).2.toNat + readF f ((bs.drop at_).drop (firstU (bs.drop at_)).2.toNat) := rfl
  by_cases hlt : at_ < bs.length
  · have hX2 : RdB X (some (q.add (at_ * 1))) (bs.drop at_) := hX.drop at_ (.inr (by rw [Nat.mul_one]; rfl)) (fun h => by cases h)
    have hfi := utfFirst_spec hY (q.add (at_ * 1)) (cap - at_) (bs.drop at_) hX2 (by simp; omega) (by simp; omega) (by intro h; have := congrArg List.length h; simp at this; omega)
    rw [List.length_drop] at hfi
    have hsl : sl (some q) at_ bs.length cap 1 = .slice (some (q.add (at_ * 1))) (bs.length - at_) (cap - at_) := by
      unfold sl
      rw [if_neg (by omega)]
      rfl
    obtain ⟨F, hF⟩ : ∃ F, F = firstU (bs.drop at_) := ⟨_, rfl⟩
    rw [← hF] at hb hstep hfi
    obtain ⟨ch, nn⟩ := F
    have hfH := Lib.hid hfi
    have hsH := Lib.hid hsl
    have hR := Lib.hid (he.trans (by rw [hstep]))
    simp only at hb
    obtain ⟨n, rfl⟩ : ∃ n : Nat, nn = n := ⟨nn.toNat, by omega⟩
    clear hX hX2 hY hfi hsl hF hstep he
    have h1c : ∀ v ∈ [Value.int .i32 ch], v.oneCell' = true := by simp [Value.oneCell']
    repeat' (first | (refine SL.TO.is ?_; first | (refine SL.W.quick ?_; first | refine SL.W.pass ?_ | refine SL.W.pv ?_ | refine SL.W.pv0 ?_) | (refine SL.TO.door (o := ⟨_, .call _, _, _, _, _⟩) ?_; first | (refine SL.TO.door (o := ⟨_, .call ⟨.value (.func 130), _, _⟩, _, _, _, _⟩) ?_; first | (refine SL.W.call (hfH.out) ?_; rintro _ _ ⟨rfl, rfl⟩; try simp only [SL.aps])) | (refine SL.TO.door (o := ⟨_, .call ⟨.builtin .append, _, _⟩, _, _, _, _⟩) ?_; first | (refine SL.W.append (h1 := h1c) ?_; intro oa oc))) | (refine SL.TO.door (o := ⟨_, .slice _ _ _ _ _, _, _, _, _⟩) ?_; first | (refine SL.W.pvn (SL.PV.sliceLo (lo := at_) (by rfl) (by rfl) rfl (by omega)) ?_; refine SL.TO.slot (d := 11) (by rfl) hsH.out ?_)) | refine SL.TO.nil ?_ | (refine SL.TO.nilD ?_; simp only [SL.setB]) | refine SL.W.pass ?_ | refine SL.W.pass0 ?_ | (refine SL.W.pure ?_; first | refine SL.W.pv ?_ | refine SL.W.pv0 ?_) | (refine SL.W.loud ?_; first | refine SL.W.load ?_ | refine SL.W.loadA ?_ | refine SL.W.store ?_ | refine SL.W.storeA ?_ | (refine SL.W.box ?_; intro b) | (refine SL.W.alloc ?_; intro b) | (refine SL.W.buildSlice ?_; intro b) | (refine SL.W.append ?_; intro a cap) | refine SL.W.bytesToStr ?_ | refine SL.W.toIntC ?_ | (refine SL.W.makeSlice ?_; intro b))) | (refine SL.TK.is ?_; first | refine SL.TK.seq ?_ | refine SL.TK.region ?_ | refine SL.TK.regionD SL.mixed (by simp only [SL.falses] <;> rfl) ?_ | refine SL.TK.block ?_ | refine SL.TK.inBlock ?_ | refine SL.TK.skip ?_ | refine SL.TK.scope ?_ | refine SL.TK.inScope ?_ | refine SL.TK.label ?_ | (refine SL.TK.isExit ?_; refine SL.W.exit ?_) | refine SL.W.condT ?_ | refine SL.W.condF ?_) | (refine SL.TD.is ?_; first | (refine SL.W.dfin ?_; simp only [SL.aps]) | refine SL.W.dpass ?_ | refine SL.W.dpure ?_ | refine SL.W.dload ?_ | refine SL.W.dloadA ?_ | refine SL.W.dfrz ?_ | (refine SL.W.dthaw ?_; simp only [SL.aps])) | ((first | refine SL.W.guardP (fun h => ?_) (fun h => ?_) | refine SL.W.condP (fun h => ?_) (fun h => ?_) | refine SL.W.dguardP (fun h => ?_) (fun h => ?_)) <;> (fail_if_success (have : h = trivial := rfl)) <;> (fail_if_success (have : h = not_false := rfl)) <;> first | contradiction | (exfalso; omega) | (exfalso; revert h; simp; done) | skip) | ((first | refine SL.W.guardB (fun h => ?_) (fun h => ?_) | refine SL.W.dguardB (fun h => ?_) (fun h => ?_)) <;> (fail_if_success (have : h = (rfl : true = true) := rfl)) <;> (fail_if_success (have : h = (rfl : false = false) := rfl))) | refine SL.W.condB (fun h => ?_) (fun h => ?_) | (refine SL.TD.is ?_; first | refine SL.W.done ?_ | refine SL.W.dtwo ?_ ?_ | refine SL.W.dthree ?_ ?_ ?_))
    · have hz : readU bs = at_ := by rw [hR.out, if_pos (by assumption)]; rfl
      rw [hz]
      exact SL.TK.retD Tryz.func95 (SL.Res.two rfl (by rfl) (by rfl)) ⟨_, rfl, rfl⟩ (EntD.cons (by first | ((repeat (first | exact SL.Pick.head | apply SL.Pick.tail)); done) | fail) (EntD.cons (by first | ((repeat (first | exact SL.Pick.head | apply SL.Pick.tail)); done) | fail) EntD.nil))
    · have hn0 : ¬ (n : Int) = 0 := by assumption
      refine SL.TK.againD ih ⟨at_ + n, f, m + 1, oc, oa, _, by omega, by omega, by omega, ?_, rfl, rfl, rfl⟩ (by first | ((repeat (first | exact SL.Sub.nil | refine SL.Sub.cons (by rfl) (by first | rfl | exact SL.int_eq (by omega)) ?_)); done) | fail) (EntD.cons (by first | ((repeat (first | exact SL.Pick.head | apply SL.Pick.tail)); done) | fail) (EntD.cons (by first | ((repeat (first | exact SL.Pick.head | apply SL.Pick.tail)); done) | fail) (EntD.cons (by first | ((repeat (first | exact SL.Pick.head | apply SL.Pick.tail)); done) | fail) EntD.nil))) (by omega)
      rw [hR.out, if_neg hn0, List.drop_drop]
      simp only [Int.toNat_natCast]
      omega
  · have hle : at_ = bs.length := by omega
    subst hle
    have hfi := fun (a : Option Addr) (c : Nat) => utfFirst_nil a c
    have hR : readU bs = bs.length := by rw [he, hstep]; simp [firstU]
    have hRH := Lib.hid hR
    have hsl : sl (some q) bs.length bs.length cap 1 = .slice (if cap = bs.length then some q else some (q.add (bs.length * 1))) 0 (cap - bs.length) := by
      unfold sl
      rw [Nat.sub_self]
      rfl
    have hsH := Lib.hid hsl
    clear hX hY hstep he hR hsl ih
    repeat' (first | (refine SL.TO.is ?_; first | (refine SL.W.quick ?_; first | refine SL.W.pass ?_ | refine SL.W.pv ?_ | refine SL.W.pv0 ?_) | (refine SL.TO.door (o := ⟨_, .call _, _, _, _, _⟩) ?_; first | (refine SL.TO.door (o := ⟨_, .call ⟨.value (.func 130), _, _⟩, _, _, _, _⟩) ?_; first | (refine SL.W.call (hfi _ _) ?_; rintro _ _ ⟨rfl, rfl⟩; try simp only [SL.aps]))) | (refine SL.TO.door (o := ⟨_, .slice _ _ _ _ _, _, _, _, _⟩) ?_; first | (refine SL.W.pvn (SL.PV.sliceLo (lo := bs.length) (by rfl) (by rfl) rfl (by omega)) ?_; refine SL.TO.slot (d := 11) (by rfl) hsH.out ?_)) | refine SL.TO.nil ?_ | (refine SL.TO.nilD ?_; simp only [SL.setB]) | refine SL.W.pass ?_ | refine SL.W.pass0 ?_ | (refine SL.W.pure ?_; first | refine SL.W.pv ?_ | refine SL.W.pv0 ?_) | (refine SL.W.loud ?_; first | refine SL.W.load ?_ | refine SL.W.loadA ?_ | refine SL.W.store ?_ | refine SL.W.storeA ?_ | (refine SL.W.box ?_; intro b) | (refine SL.W.alloc ?_; intro b) | (refine SL.W.buildSlice ?_; intro b) | (refine SL.W.append ?_; intro a cap) | refine SL.W.bytesToStr ?_ | refine SL.W.toIntC ?_ | (refine SL.W.makeSlice ?_; intro b))) | (refine SL.TK.is ?_; first | refine SL.TK.seq ?_ | refine SL.TK.region ?_ | refine SL.TK.regionD SL.mixed (by simp only [SL.falses] <;> rfl) ?_ | refine SL.TK.block ?_ | refine SL.TK.inBlock ?_ | refine SL.TK.skip ?_ | refine SL.TK.scope ?_ | refine SL.TK.inScope ?_ | refine SL.TK.label ?_ | (refine SL.TK.isExit ?_; refine SL.W.exit ?_) | refine SL.W.condT ?_ | refine SL.W.condF ?_) | (refine SL.TD.is ?_; first | (refine SL.W.dfin ?_; simp only [SL.aps]) | refine SL.W.dpass ?_ | refine SL.W.dpure ?_ | refine SL.W.dload ?_ | refine SL.W.dloadA ?_ | refine SL.W.dfrz ?_ | (refine SL.W.dthaw ?_; simp only [SL.aps])) | ((first | refine SL.W.guardP (fun h => ?_) (fun h => ?_) | refine SL.W.condP (fun h => ?_) (fun h => ?_) | refine SL.W.dguardP (fun h => ?_) (fun h => ?_)) <;> (fail_if_success (have : h = trivial := rfl)) <;> (fail_if_success (have : h = not_false := rfl)) <;> first | contradiction | (exfalso; omega) | (exfalso; revert h; simp; done) | skip) | ((first | refine SL.W.guardB (fun h => ?_) (fun h => ?_) | refine SL.W.dguardB (fun h => ?_) (fun h => ?_)) <;> (fail_if_success (have : h = (rfl : true = true) := rfl)) <;> (fail_if_success (have : h = (rfl : false = false) := rfl))) | refine SL.W.condB (fun h => ?_) (fun h => ?_) | (refine SL.TD.is ?_; first | refine SL.W.done ?_ | refine SL.W.dtwo ?_ ?_ | refine SL.W.dthree ?_ ?_ ?_))
    rw [hRH.out]
    exact SL.TK.retD Tryz.func95 (SL.Res.two rfl (by rfl) (by rfl)) ⟨_, rfl, rfl⟩ (EntD.cons (by first | ((repeat (first | exact SL.Pick.head | apply SL.Pick.tail)); done) | fail) (EntD.cons (by first | ((repeat (first | exact SL.Pick.head | apply SL.Pick.tail)); done) | fail) EntD.nil))
theorem decode_spec {X Y : HProp} (hY : FormsIn Y) (q : Addr) (cap : Nat) (bs : List UInt8) (hX : RdB X (some q) bs) (hc : bs.length ≤ cap) (hl : bs.length ≤ 1000000000) :
    Spec Tryz.prog 67 [.slice (some q) bs.length cap] [X, Y] (fun r L => ∃ v, r = .tuple #[v, .int .i64 (decU bs)] ∧ L = [X, Y]) := by
  have hr := Lib.hid (utfRead_spec hY q cap bs hX hc hl)
  obtain ⟨n, hn⟩ : ∃ n, n = readU bs := ⟨_, rfl⟩
  have hd : decU bs = if (n : Int) < bs.length then 21 else 0 := by rw [hn]; rfl
  rw [← hn] at hr
  rw [hd]
  clear hX hY hn hd
  refine SL.Spec.of_TK Go.Proofs.Tryz.func67 rfl rfl SL.call67 rfl ?_
  repeat' (first | (refine SL.TO.is ?_; first | (refine SL.W.quick ?_; first | refine SL.W.pass ?_ | refine SL.W.pv ?_ | refine SL.W.pv0 ?_) | (refine SL.TO.door (o := ⟨_, .call _, _, _, _, _⟩) ?_; first | (refine SL.TO.door (o := ⟨_, .call ⟨.value (.func 95), _, _⟩, _, _, _, _⟩) ?_; first | (refine SL.W.call (hr.out) ?_; rintro _ _ ⟨v, rfl, rfl⟩; try simp only [SL.aps]))) | refine SL.TO.nil ?_ | (refine SL.TO.nilD ?_; simp only [SL.setB]) | refine SL.W.pass ?_ | refine SL.W.pass0 ?_ | (refine SL.W.pure ?_; first | refine SL.W.pv ?_ | refine SL.W.pv0 ?_) | (refine SL.W.loud ?_; first | refine SL.W.load ?_ | refine SL.W.loadA ?_ | refine SL.W.store ?_ | refine SL.W.storeA ?_ | (refine SL.W.box ?_; intro b) | (refine SL.W.alloc ?_; intro b) | (refine SL.W.buildSlice ?_; intro b) | (refine SL.W.append ?_; intro a cap) | refine SL.W.bytesToStr ?_ | refine SL.W.toIntC ?_ | (refine SL.W.makeSlice ?_; intro b))) | (refine SL.TK.is ?_; first | refine SL.TK.seq ?_ | refine SL.TK.region ?_ | refine SL.TK.regionD SL.mixed (by simp only [SL.falses] <;> rfl) ?_ | refine SL.TK.block ?_ | refine SL.TK.inBlock ?_ | refine SL.TK.skip ?_ | refine SL.TK.scope ?_ | refine SL.TK.inScope ?_ | refine SL.TK.label ?_ | (refine SL.TK.isExit ?_; refine SL.W.exit ?_) | refine SL.W.condT ?_ | refine SL.W.condF ?_) | (refine SL.TD.is ?_; first | (refine SL.W.dfin ?_; simp only [SL.aps]) | refine SL.W.dpass ?_ | refine SL.W.dpure ?_ | refine SL.W.dload ?_ | refine SL.W.dloadA ?_ | refine SL.W.dfrz ?_ | (refine SL.W.dthaw ?_; simp only [SL.aps])) | ((first | refine SL.W.guardP (fun h => ?_) (fun h => ?_) | refine SL.W.condP (fun h => ?_) (fun h => ?_) | refine SL.W.dguardP (fun h => ?_) (fun h => ?_)) <;> (fail_if_success (have : h = trivial := rfl)) <;> (fail_if_success (have : h = not_false := rfl)) <;> first | contradiction | (exfalso; omega) | (exfalso; revert h; simp; done) | skip) | ((first | refine SL.W.guardB (fun h => ?_) (fun h => ?_) | refine SL.W.dguardB (fun h => ?_) (fun h => ?_)) <;> (fail_if_success (have : h = (rfl : true = true) := rfl)) <;> (fail_if_success (have : h = (rfl : false = false) := rfl))) | refine SL.W.condB (fun h => ?_) (fun h => ?_) | (refine SL.TD.is ?_; first | refine SL.W.done ?_ | refine SL.W.dtwo ?_ ?_ | refine SL.W.dthree ?_ ?_ ?_))
  · rw [if_pos (by assumption)]
    exact SL.TK.retD Tryz.func67 (SL.Res.two rfl (by rfl) (by rfl)) ⟨_, rfl, rfl⟩ (EntD.cons (by first | ((repeat (first | exact SL.Pick.head | apply SL.Pick.tail)); done) | fail) (EntD.cons (by first | ((repeat (first | exact SL.Pick.head | apply SL.Pick.tail)); done) | fail) EntD.nil))
  · rw [if_neg (by assumption)]
    exact SL.TK.retD Tryz.func67 (SL.Res.two rfl (by rfl) (by rfl)) ⟨_, rfl, rfl⟩ (EntD.cons (by first | ((repeat (first | exact SL.Pick.head | apply SL.Pick.tail)); done) | fail) (EntD.cons (by first | ((repeat (first | exact SL.Pick.head | apply SL.Pick.tail)); done) | fail) EntD.nil))
theorem may_spec {Y : HProp} (hY : FormsIn Y) (bs : List UInt8) (hl : bs.length ≤ 1000000000) : Spec Tryz.prog 134 [strV bs] [Y] (fun r L => r = .bool (mayN bs) ∧ L = [Y]) := by
  have hd := Lib.hid fun (q : Addr) (cap : Nat) (G : Hp) (h1 : RdG G (some q) (bs.map byteV)) (h2 : bs.length ≤ cap) => decode_spec hY q cap bs (RdB.ro h1) h2 hl
  obtain ⟨e, he⟩ : ∃ e, e = decU bs := ⟨_, rfl⟩
  have hm : mayN bs = decide (e = 0 ∧ bs ≠ [] ∧ bs.length ≤ 64) := by unfold mayN; rw [he]
  rw [hm]
  rw [← he] at hd
  clear he hm hY
  refine SL.Spec.of_TK Go.Proofs.Tryz.func134 rfl rfl SL.call134 rfl ?_
  repeat' (first | (refine SL.TO.is ?_; first | (refine SL.TO.door (o := ⟨_, .binOp .neq _ _ _ _, _, _, _, _⟩) ?_; refine SL.W.pvn (SL.PV.neS (b := []) (by rfl) (by rfl)) ?_) | (refine SL.TO.door (o := ⟨_, .call ⟨.builtin .len, _, _⟩, _, _, _, _⟩) ?_; refine SL.W.pvn (SL.PV.lenStr (by kernel_rfl) (by rfl)) ?_) | (refine SL.W.quick ?_; first | refine SL.W.pass ?_ | refine SL.W.pv ?_ | refine SL.W.pv0 ?_) | (refine SL.TO.door (o := ⟨_, .call _, _, _, _, _⟩) ?_; first | (refine SL.TO.door (o := ⟨_, .call ⟨.value (.func 67), _, _⟩, _, _, _, _⟩) ?_; first | (refine SL.W.call (hd2) ?_; rintro _ _ ⟨v, rfl, rfl⟩; try simp only [SL.aps]))) | (refine SL.TO.door (o := ⟨_, .convert _ _ _, _, _, _, _⟩) ?_; first | (refine SL.TO.strBytes (e := 5) (by kernel_rfl) (by kernel_rfl) (by kernel_rfl) (by rfl) (by rfl) (by rfl) ?_; intro sb sc G hG hsc; have hd2 := hd.out _ _ _ hG hsc)) | refine SL.TO.nil ?_ | (refine SL.TO.nilD ?_; simp only [SL.setB]) | refine SL.W.pass ?_ | refine SL.W.pass0 ?_ | (refine SL.W.pure ?_; first | refine SL.W.pv ?_ | refine SL.W.pv0 ?_) | (refine SL.W.loud ?_; first | refine SL.W.load ?_ | refine SL.W.loadA ?_ | refine SL.W.store ?_ | refine SL.W.storeA ?_ | (refine SL.W.box ?_; intro b) | (refine SL.W.alloc ?_; intro b) | (refine SL.W.buildSlice ?_; intro b) | (refine SL.W.append ?_; intro a cap) | refine SL.W.bytesToStr ?_ | refine SL.W.toIntC ?_ | (refine SL.W.makeSlice ?_; intro b))) | (refine SL.TK.is ?_; first | refine SL.TK.seq ?_ | refine SL.TK.region ?_ | refine SL.TK.regionD SL.mixed (by simp only [SL.falses] <;> rfl) ?_ | refine SL.TK.block ?_ | refine SL.TK.inBlock ?_ | refine SL.TK.skip ?_ | refine SL.TK.scope ?_ | refine SL.TK.inScope ?_ | refine SL.TK.label ?_ | (refine SL.TK.isExit ?_; refine SL.W.exit ?_) | refine SL.W.condT ?_ | refine SL.W.condF ?_) | (refine SL.TD.is ?_; first | (refine SL.W.dfin ?_; simp only [SL.aps]) | refine SL.W.dpass ?_ | refine SL.W.dpure ?_ | refine SL.W.dload ?_ | refine SL.W.dloadA ?_ | refine SL.W.dfrz ?_ | (refine SL.W.dthaw ?_; simp only [SL.aps])) | ((first | refine SL.W.guardP (fun h => ?_) (fun h => ?_) | refine SL.W.condP (fun h => ?_) (fun h => ?_) | refine SL.W.dguardP (fun h => ?_) (fun h => ?_)) <;> (fail_if_success (have : h = trivial := rfl)) <;> (fail_if_success (have : h = not_false := rfl)) <;> first | contradiction | (exfalso; omega) | (exfalso; revert h; simp; done) | skip) | ((first | refine SL.W.guardB (fun h => ?_) (fun h => ?_) | refine SL.W.dguardB (fun h => ?_) (fun h => ?_)) <;> (fail_if_success (have : h = (rfl : true = true) := rfl)) <;> (fail_if_success (have : h = (rfl : false = false) := rfl))) | refine SL.W.condB (fun h => ?_) (fun h => ?_) | (refine SL.TD.is ?_; first | refine SL.W.done ?_ | refine SL.W.dtwo ?_ ?_ | refine SL.W.dthree ?_ ?_ ?_))
  all_goals exact SL.TK.retD Tryz.func134 (SL.Res.one rfl (by rfl)) ⟨by simp_all <;> omega, rfl⟩ (EntD.cons (by first | ((repeat (first | exact SL.Pick.head | apply SL.Pick.tail)); done) | fail) EntD.nil)
end SL
end
section
set_option linter.unusedVariables false
set_option linter.unusedSimpArgs false
set_option maxRecDepth 10000
namespace SL
open Go Go.Proofs Go.RowKit
abbrev Nm := List UInt8
def ptrV (d : Nat) : Value := .pointer (some ⟨d, 0, none⟩)
def nmF : List Nm → Nat → List (Nm × Value)
  | [], _ => []
  | x :: r, i => (x, .int .u32 ((i + 1 : Nat) : Int)) :: nmF r (i + 1)
def idxN (q : Nm) : List Nm → Nat → Option Nat
  | [], _ => none
  | x :: r, i => if x = q then some (i + 1) else idxN q r (i + 1)
theorem get_nm (q : Nm) : ∀ (ns : List Nm) (i : Nat), get q (nmF ns i) = (idxN q ns i).map fun k => .int .u32 (k : Int)
  | [], i => rfl
  | x :: r, i => by
    simp only [nmF, get, idxN]
    split
    · rfl
    · exact get_nm q r (i + 1)
theorem idxN_none {q : Nm} : ∀ {ns : List Nm} {i : Nat}, idxN q ns i = none ↔ q ∉ ns
  | [], i => by simp [idxN]
  | x :: r, i => by
    simp only [idxN, List.mem_cons]
    split
    · rename_i h; simp [h]
    · rename_i h
      rw [idxN_none (ns := r) (i := i + 1)]
      exact ⟨fun a b => b.elim (fun c => h c.symm) a, fun a b => a (.inr b)⟩
theorem upd_nm {q : Nm} : ∀ {ns : List Nm} {i : Nat}, q ∉ ns → upd q (.int .u32 ((i + ns.length + 1 : Nat) : Int)) (nmF ns i) = nmF (ns ++ [q]) i
  | [], i, _ => by simp [nmF, upd]
  | x :: r, i, h => by
    have h1 : ¬ x = q := fun c => h (by simp [c])
    have h2 : q ∉ r := fun c => h (by simp [c])
    have ih := upd_nm (i := i + 1) h2
    simp only [nmF, upd, if_neg h1, List.cons_append, List.length_cons]
    rw [← ih]
    congr 4
    omega
def shC (na : Option Addr) (nl nc : Nat) (da : Option Addr) (dc mb : Nat) : List Value := [.slice na nl nc, .slice da nl dc, .map (some mb)]
def ShelfAt (sb : Nat) (ns : List Nm) (ds : List Nat) : HProp := SL.ex fun p : (Option Addr × Nat) × (Option Addr × Nat) × Nat => seps [SL.blk sb 105 (shC p.1.1 ns.length p.1.2 p.2.1.1 p.2.1.2 p.2.2), own 9 1 p.1.1 ns.length p.1.2 (ns.map strV), own 63 1 p.2.1.1 ns.length p.2.1.2 (ds.map ptrV), mp strV p.2.2 (nmF ns 0)]
theorem sh_shut {sb nl nc dc mb : Nat} {na da : Option Addr} {ns : List Nm} {ds : List Nat} (hl : nl = ns.length) : ∀ h, seps [SL.blk sb 105 (shC na nl nc da dc mb), own 9 1 na nl nc (ns.map strV), own 63 1 da nl dc (ds.map ptrV), mp strV mb (nmF ns 0)] h → ShelfAt sb ns ds h := fun h x => by
  subst hl
  exact ⟨((na, nc), (da, dc), mb), x⟩
section
variable {P : Program} {fid : Fm} {n : Nat} {post : Post} {k : List Item} {ρ : Env} {L L' r : List HProp}
theorem TK.openSh {sb : Nat} {ns : List Nm} {ds : List Nat} (hp : Pick L (ShelfAt sb ns ds) r) (h : ∀ na nc da dc mb, TK P fid n post k ρ (SL.blk sb 105 (shC na ns.length nc da dc mb) :: own 9 1 na ns.length nc (ns.map strV) :: own 63 1 da ns.length dc (ds.map ptrV) :: mp strV mb (nmF ns 0) :: r)) : TK P fid n post k ρ L :=
  TK.exC hp fun p => TK.sepsC Pick.head (h p.1.1 p.1.2 p.2.1.1 p.2.1.2 p.2.2)
end
instance keyStr : TKy Tryz.prog 9 (List UInt8) strV := TKy.str (by kernel_rfl)
attribute [local irreducible] SL.TK SL.TO SL.TD SL.PV SL.Pick SL.Frm SL.Ent SL.Sub SL.EvAll SL.seps SL.sep SL.Cut SL.PutAt SL.blk SL.EvP SL.Fill SL.Src SL.EntD SL.own SL.ex SL.fact SL.orig
theorem shNone_spec (sb mb : Nat) (x y : Value) : Spec Tryz.prog 45 [.pointer (some ⟨sb, 0, none⟩)] [SL.blk sb 105 [x, y, .map (some mb)]] (fun r L => r = .bool false ∧ L = [SL.blk sb 105 [x, y, .map (some mb)]]) := by
  refine SL.Spec.of_TK Go.Proofs.Tryz.func45 rfl rfl SL.call45 rfl ?_
  repeat' (first | (refine SL.TO.is ?_; first | (refine SL.W.quick ?_; first | refine SL.W.pass ?_ | refine SL.W.pv ?_ | refine SL.W.pv0 ?_) | refine SL.TO.nil ?_ | (refine SL.TO.nilD ?_; simp only [SL.setB]) | refine SL.W.pass ?_ | refine SL.W.pass0 ?_ | (refine SL.W.pure ?_; first | refine SL.W.pv ?_ | refine SL.W.pv0 ?_ | refine SL.W.lenMp ?_) | (refine SL.W.loud ?_; first | refine SL.W.load ?_ | refine SL.W.loadA ?_ | refine SL.W.store ?_ | refine SL.W.storeA ?_ | (refine SL.W.box ?_; intro b) | (refine SL.W.alloc ?_; intro b) | (refine SL.W.buildSlice ?_; intro b) | (refine SL.W.append ?_; intro a cap) | refine SL.W.bytesToStr ?_ | refine SL.W.toIntC ?_ | (refine SL.W.makeSlice ?_; intro b) | refine SL.W.lookupOk ?_ | refine SL.W.lookup ?_ | (refine SL.W.makeMap ?_; intro b) | refine SL.W.mapUpdate ?_ | (refine SL.W.mapEntry ?_; intro stamp) | refine SL.W.entryStore ?_ | (refine SL.W.range ?_; intro it) | refine SL.W.delete ?_)) | (refine SL.TK.is ?_; first | refine SL.TK.seq ?_ | refine SL.TK.region ?_ | refine SL.TK.regionD SL.mixed (by simp only [SL.falses] <;> rfl) ?_ | refine SL.TK.block ?_ | refine SL.TK.inBlock ?_ | refine SL.TK.skip ?_ | refine SL.TK.scope ?_ | refine SL.TK.inScope ?_ | refine SL.TK.label ?_ | (refine SL.TK.isExit ?_; refine SL.W.exit ?_) | refine SL.W.condT ?_ | refine SL.W.condF ?_) | (refine SL.TD.is ?_; first | (refine SL.W.dfin ?_; simp only [SL.aps]) | refine SL.W.dpass ?_ | refine SL.W.dpure ?_ | refine SL.W.dload ?_ | refine SL.W.dloadA ?_ | refine SL.W.dfrz ?_ | (refine SL.W.dthaw ?_; simp only [SL.aps])) | ((first | refine SL.W.guardP (fun h => ?_) (fun h => ?_) | refine SL.W.condP (fun h => ?_) (fun h => ?_) | refine SL.W.dguardP (fun h => ?_) (fun h => ?_)) <;> (fail_if_success (have : h = trivial := rfl)) <;> (fail_if_success (have : h = not_false := rfl)) <;> first | contradiction | (exfalso; omega) | (exfalso; revert h; simp; done) | skip) | ((first | refine SL.W.guardB (fun h => ?_) (fun h => ?_) | refine SL.W.dguardB (fun h => ?_) (fun h => ?_)) <;> (fail_if_success (have : h = (rfl : true = true) := rfl)) <;> (fail_if_success (have : h = (rfl : false = false) := rfl))) | refine SL.W.condB (fun h => ?_) (fun h => ?_) | (refine SL.TD.is ?_; first | refine SL.W.done ?_ | refine SL.W.dtwo ?_ ?_ | refine SL.W.dthree ?_ ?_ ?_))
  all_goals exact SL.TK.retD Tryz.func45 (SL.Res.one rfl (by rfl)) ⟨rfl, rfl⟩ (EntD.cons (by first | ((repeat (first | exact SL.Pick.head | apply SL.Pick.tail)); done) | fail) EntD.nil)
theorem shNew_spec : Spec Tryz.prog 49 [] [] (fun r L => ∃ sb, r = .pointer (some ⟨sb, 0, none⟩) ∧ L = [ShelfAt sb [] []]) := by
  refine SL.Spec.of_TK Go.Proofs.Tryz.func49 rfl rfl SL.call49 rfl ?_
  repeat' (first | (refine SL.TO.is ?_; first | (refine SL.W.quick ?_; first | refine SL.W.pass ?_ | refine SL.W.pv ?_ | refine SL.W.pv0 ?_) | refine SL.TO.nil ?_ | (refine SL.TO.nilD ?_; simp only [SL.setB]) | refine SL.W.pass ?_ | refine SL.W.pass0 ?_ | (refine SL.W.pure ?_; first | refine SL.W.pv ?_ | refine SL.W.pv0 ?_ | refine SL.W.lenMp ?_) | (refine SL.W.loud ?_; first | refine SL.W.load ?_ | refine SL.W.loadA ?_ | refine SL.W.store ?_ | refine SL.W.storeA ?_ | (refine SL.W.box ?_; intro b) | (refine SL.W.alloc ?_; intro b) | (refine SL.W.buildSlice ?_; intro b) | (refine SL.W.append ?_; intro a cap) | refine SL.W.bytesToStr ?_ | refine SL.W.toIntC ?_ | (refine SL.W.makeSlice ?_; intro b) | refine SL.W.lookupOk ?_ | refine SL.W.lookup ?_ | (refine SL.W.makeMap ?_; intro b) | refine SL.W.mapUpdate ?_ | (refine SL.W.mapEntry ?_; intro stamp) | refine SL.W.entryStore ?_ | (refine SL.W.range ?_; intro it) | refine SL.W.delete ?_)) | (refine SL.TK.is ?_; first | refine SL.TK.seq ?_ | refine SL.TK.region ?_ | refine SL.TK.regionD SL.mixed (by simp only [SL.falses] <;> rfl) ?_ | refine SL.TK.block ?_ | refine SL.TK.inBlock ?_ | refine SL.TK.skip ?_ | refine SL.TK.scope ?_ | refine SL.TK.inScope ?_ | refine SL.TK.label ?_ | (refine SL.TK.isExit ?_; refine SL.W.exit ?_) | refine SL.W.condT ?_ | refine SL.W.condF ?_) | (refine SL.TD.is ?_; first | (refine SL.W.dfin ?_; simp only [SL.aps]) | refine SL.W.dpass ?_ | refine SL.W.dpure ?_ | refine SL.W.dload ?_ | refine SL.W.dloadA ?_ | refine SL.W.dfrz ?_ | (refine SL.W.dthaw ?_; simp only [SL.aps])) | ((first | refine SL.W.guardP (fun h => ?_) (fun h => ?_) | refine SL.W.condP (fun h => ?_) (fun h => ?_) | refine SL.W.dguardP (fun h => ?_) (fun h => ?_)) <;> (fail_if_success (have : h = trivial := rfl)) <;> (fail_if_success (have : h = not_false := rfl)) <;> first | contradiction | (exfalso; omega) | (exfalso; revert h; simp; done) | skip) | ((first | refine SL.W.guardB (fun h => ?_) (fun h => ?_) | refine SL.W.dguardB (fun h => ?_) (fun h => ?_)) <;> (fail_if_success (have : h = (rfl : true = true) := rfl)) <;> (fail_if_success (have : h = (rfl : false = false) := rfl))) | refine SL.W.condB (fun h => ?_) (fun h => ?_) | (refine SL.TD.is ?_; first | refine SL.W.done ?_ | refine SL.W.dtwo ?_ ?_ | refine SL.W.dthree ?_ ?_ ?_))
  all_goals exact SL.TK.retD Tryz.func49 (SL.Res.one rfl (by rfl)) ⟨_, rfl, rfl⟩ (EntD.trans (EntD.of_ent (Ent.own_nil (e := 9) (sz := 1) (Ent.own_nil (e := 63) (sz := 1) Ent.refl))) (EntD.frm (by first | ((repeat (first | exact SL.Frm.nil | exact SL.Frm.refl | (apply SL.Frm.cons; repeat (first | exact SL.Pick.head | apply SL.Pick.tail)))); done) | fail) (sh_shut (nl := 0) (ns := []) (ds := []) rfl) EntD.nil))
theorem get_upd_same (q : Nm) (v : Value) : ∀ l : List (Nm × Value), get q (upd q v l) = some v
  | [] => by simp [upd, get]
  | p :: l => by
    simp only [upd]
    split
    · simp [get]
    · rename_i h
      simp only [get, if_neg h]
      exact get_upd_same q v l
theorem lay_new {Y : HProp} (hY : FormsIn Y) (sb d : Nat) (ns : List Nm) (ds : List Nat) (q : Nm) (hl : q.length ≤ 1000000000) (hm : mayN q = true) (hq : q ∉ ns) (hn : ns.length < 32) : Spec Tryz.prog 99 [.pointer (some ⟨sb, 0, none⟩), strV q, ptrV d] [ShelfAt sb ns ds, Y]
    (fun r L => r = .tuple #[.int .u32 ((ns.length + 1 : Nat) : Int), .int .i64 0] ∧ L = [ShelfAt sb (ns ++ [q]) (ds ++ [d]), Y]) := by
  have h := may_spec hY q hl
  rw [hm] at h
  have h1 : (get q (nmF ns 0)).getD (.int .u32 0) = .int .u32 0 := by rw [get_nm, idxN_none.2 hq]; rfl
  have hG := Lib.hid h1
  have h2 : (get q (upd q (.int .u32 ((ns.length + 1 : Nat) : Int)) (nmF ns 0))).getD (.int .u32 0) = .int .u32 ((ns.length + 1 : Nat) : Int) := by rw [get_upd_same]; rfl
  have hG2 := Lib.hid h2
  have h3 : upd q (.int .u32 ((ns.length + 1 : Nat) : Int)) (nmF ns 0) = nmF (ns ++ [q]) 0 := by
    have := upd_nm (i := 0) hq
    rwa [Nat.zero_add] at this
  have hU := Lib.hid h3
  have hlen : ns.length + 1 = (ns ++ [q]).length := by simp
  have hs1 : ns.map strV ++ [strV q] = (ns ++ [q]).map strV := by simp
  have hs2 : ds.map ptrV ++ [ptrV d] = (ds ++ [d]).map ptrV := by simp
  have hH := Lib.hid (And.intro hlen (And.intro hs1 hs2))
  clear hY h1 h2 h3 hlen hs1 hs2 hq
  have h1a : ∀ v ∈ [strV q], v.oneCell' = true := by simp [Value.oneCell', strV]
  have h1b : ∀ v ∈ [ptrV d], v.oneCell' = true := by simp [Value.oneCell', ptrV]
  refine SL.Spec.of_TK Go.Proofs.Tryz.func99 rfl rfl SL.call99 rfl ?_
  refine SL.TK.openSh (by first | ((repeat (first | exact SL.Pick.head | apply SL.Pick.tail)); done) | fail) (fun na nc da dc mb => ?_)
  unfold shC
  repeat' (first | (refine SL.TO.is ?_; first | (refine SL.W.quick ?_; first | refine SL.W.pass ?_ | refine SL.W.pv ?_ | refine SL.W.pv0 ?_) | (refine SL.TO.door (o := ⟨_, .call _, _, _, _, _⟩) ?_; first | (refine SL.TO.door (o := ⟨_, .call ⟨.value (.func 134), _, _⟩, _, _, _, _⟩) ?_; first | (refine SL.W.call (h) ?_; rintro _ _ ⟨rfl, rfl⟩; try simp only [SL.aps])) | (refine SL.TO.door (o := ⟨_, .call ⟨.builtin .append, _, _⟩, _, _, _, _⟩) ?_; first | (refine SL.W.append (h1 := h1a) ?_; intro oa oc) | (refine SL.W.append (h1 := h1b) ?_; intro pa pc))) | (refine SL.TO.door (o := ⟨_, .lookup _ _ _ _, _, _, _, _⟩) ?_; first | (refine SL.W.lookup ?_; refine SL.TO.slot (d := 18) (by rfl) hG.out ?_) | (refine SL.W.lookup ?_; refine SL.TO.slot (d := 63) (by rfl) hG2.out ?_)) | refine SL.TO.nil ?_ | (refine SL.TO.nilD ?_; simp only [SL.setB]) | refine SL.W.pass ?_ | refine SL.W.pass0 ?_ | (refine SL.W.pure ?_; first | refine SL.W.pv ?_ | refine SL.W.pv0 ?_ | refine SL.W.lenMp ?_) | (refine SL.W.loud ?_; first | refine SL.W.load ?_ | refine SL.W.loadA ?_ | refine SL.W.store ?_ | refine SL.W.storeA ?_ | (refine SL.W.box ?_; intro b) | (refine SL.W.alloc ?_; intro b) | (refine SL.W.buildSlice ?_; intro b) | (refine SL.W.append ?_; intro a cap) | refine SL.W.bytesToStr ?_ | refine SL.W.toIntC ?_ | (refine SL.W.makeSlice ?_; intro b) | refine SL.W.lookupOk ?_ | refine SL.W.lookup ?_ | (refine SL.W.makeMap ?_; intro b) | refine SL.W.mapUpdate ?_ | (refine SL.W.mapEntry ?_; intro stamp) | refine SL.W.entryStore ?_ | (refine SL.W.range ?_; intro it) | refine SL.W.delete ?_)) | (refine SL.TK.is ?_; first | refine SL.TK.seq ?_ | refine SL.TK.region ?_ | refine SL.TK.regionD SL.mixed (by simp only [SL.falses] <;> rfl) ?_ | refine SL.TK.block ?_ | refine SL.TK.inBlock ?_ | refine SL.TK.skip ?_ | refine SL.TK.scope ?_ | refine SL.TK.inScope ?_ | refine SL.TK.label ?_ | (refine SL.TK.isExit ?_; refine SL.W.exit ?_) | refine SL.W.condT ?_ | refine SL.W.condF ?_) | (refine SL.TD.is ?_; first | (refine SL.W.dfin ?_; simp only [SL.aps]) | refine SL.W.dpass ?_ | refine SL.W.dpure ?_ | refine SL.W.dload ?_ | refine SL.W.dloadA ?_ | refine SL.W.dfrz ?_ | (refine SL.W.dthaw ?_; simp only [SL.aps])) | ((first | refine SL.W.guardP (fun h => ?_) (fun h => ?_) | refine SL.W.condP (fun h => ?_) (fun h => ?_) | refine SL.W.dguardP (fun h => ?_) (fun h => ?_)) <;> (fail_if_success (have : h = trivial := rfl)) <;> (fail_if_success (have : h = not_false := rfl)) <;> first | contradiction | (exfalso; omega) | (exfalso; revert h; simp; done) | skip) | ((first | refine SL.W.guardB (fun h => ?_) (fun h => ?_) | refine SL.W.dguardB (fun h => ?_) (fun h => ?_)) <;> (fail_if_success (have : h = (rfl : true = true) := rfl)) <;> (fail_if_success (have : h = (rfl : false = false) := rfl))) | refine SL.W.condB (fun h => ?_) (fun h => ?_) | (refine SL.TD.is ?_; first | refine SL.W.done ?_ | refine SL.W.dtwo ?_ ?_ | refine SL.W.dthree ?_ ?_ ?_))
  all_goals
    rw [hU.out, hH.out.2.1, hH.out.2.2]
    exact SL.TK.retD Tryz.func99 (SL.Res.two rfl (by rfl) (by rfl)) ⟨rfl, rfl⟩ (EntD.frm (by first | ((repeat (first | exact SL.Frm.nil | exact SL.Frm.refl | (apply SL.Frm.cons; repeat (first | exact SL.Pick.head | apply SL.Pick.tail)))); done) | fail) (sh_shut (ns := ns ++ [q]) (ds := ds ++ [d]) (nl := ns.length + 1) hH.out.1) (EntD.cons (by first | ((repeat (first | exact SL.Pick.head | apply SL.Pick.tail)); done) | fail) EntD.nil))
end SL
end
section
set_option linter.unusedVariables false
set_option linter.unusedSimpArgs false
set_option maxRecDepth 10000
namespace SL
open Go Go.Proofs Go.RowKit
def Docs (ds : List Nat) : HProp := seps (ds.map FreshD)
theorem docs_iff (l r : List Nat) (d : Nat) : ∀ h, Docs (l ++ d :: r) h ↔ sep (FreshD d) (Docs (l ++ r)) h := by
  intro h
  unfold Docs
  simp only [List.map_append, List.map_cons]
  constructor
  · intro x
    have x1 := seps_append.1 x
    have x2 : sep (sep (seps (l.map FreshD)) (FreshD d)) (seps (r.map FreshD)) h := sep_assoc.2 x1
    have x3 : sep (sep (FreshD d) (seps (l.map FreshD))) (seps (r.map FreshD)) h := sep_mono (fun _ y => sep_comm y) (fun _ y => y) x2
    exact sep_mono (fun _ y => y) (fun _ y => seps_append.2 y) (sep_assoc.1 x3)
  · intro x
    have x1 : sep (FreshD d) (sep (seps (l.map FreshD)) (seps (r.map FreshD))) h := sep_mono (fun _ y => y) (fun _ y => seps_append.1 y) x
    have x2 := sep_assoc.2 x1
    have x3 : sep (sep (seps (l.map FreshD)) (FreshD d)) (seps (r.map FreshD)) h := sep_mono (fun _ y => sep_comm y) (fun _ y => y) x2
    exact seps_append.2 (sep_assoc.1 x3)
theorem docs_shut (l r : List Nat) (d : Nat) : ∀ h, seps [FreshD d, Docs (l ++ r)] h → Docs (l ++ d :: r) h := fun h x =>
  (docs_iff l r d h).2 (sep_mono (fun _ y => y) (fun _ y => sep_emp.1 (sep_comm y)) x)
theorem docs_snoc (ds : List Nat) (d : Nat) : ∀ h, seps [FreshD d, Docs ds] h → Docs (ds ++ [d]) h := fun h x => docs_shut ds [] d h (by rwa [List.append_nil])
theorem docs_nil {L : List HProp} : EntD L (Docs [] :: L) := EntD.of_ent fun h x => sep_emp.2 x
section
variable {P : Program} {fid : Fm} {n : Nat} {post : Post} {k : List Item} {ρ : Env} {L L' r : List HProp}
theorem TK.openDoc {l q : List Nat} {d : Nat} (hp : Pick L (Docs (l ++ d :: q)) r) (h : TK P fid n post k ρ (FreshD d :: Docs (l ++ q) :: r)) : TK P fid n post k ρ L :=
  TK.ent (L' := FreshD d :: Docs (l ++ q) :: r) (fun hh x => sep_assoc.1 (sep_mono (fun _ y => (docs_iff l q d _).1 y) (fun _ y => y) ((hp hh).1 x))) h
end
attribute [local irreducible] SL.TK SL.TO SL.TD SL.PV SL.Pick SL.Frm SL.Ent SL.Sub SL.EvAll SL.seps SL.sep SL.Cut SL.PutAt SL.blk SL.EvP SL.Fill SL.Src SL.EntD SL.own SL.ex SL.fact SL.orig
theorem create_new {Y : HProp} (hY : FormsIn Y) (sb : Nat) (ns : List Nm) (ds : List Nat) (q : Nm) (hl : q.length ≤ 1000000000) (hn : ns.length < 32) (hm : mayN q = true) (hq : q ∉ ns) :
    Spec Tryz.prog 70 [.pointer (some ⟨sb, 0, none⟩), strV q] [ShelfAt sb ns ds, Y] (fun r L => ∃ db, r = .tuple #[.int .u32 ((ns.length + 1 : Nat) : Int), .int .i64 0] ∧ L = [ShelfAt sb (ns ++ [q]) (ds ++ [db]), FreshD db, Y]) := by
  have hlay := Lib.hid fun (d : Nat) => lay_new hY sb d ns ds q hl hm hq hn
  have hN := Lib.hid fun (mb : Nat) (x y : Value) => shNone_spec sb mb x y
  clear hY hm hq
  refine SL.Spec.of_TK Go.Proofs.Tryz.func70 rfl rfl SL.call70 rfl ?_
  refine SL.TK.openSh (by first | ((repeat (first | exact SL.Pick.head | apply SL.Pick.tail)); done) | fail) (fun na nc da dc mb => ?_)
  unfold shC
  repeat' (first | (refine SL.TO.is ?_; first | (refine SL.W.quick ?_; first | refine SL.W.pass ?_ | refine SL.W.pv ?_ | refine SL.W.pv0 ?_) | (refine SL.TO.door (o := ⟨_, .call _, _, _, _, _⟩) ?_; first | (refine SL.TO.door (o := ⟨_, .call ⟨.value (.func 45), _, _⟩, _, _, _, _⟩) ?_; first | (refine SL.W.call (hN.out _ _ _) ?_; rintro _ _ ⟨rfl, rfl⟩; try simp only [SL.aps])) | (refine SL.TO.door (o := ⟨_, .call ⟨.value (.func 100), _, _⟩, _, _, _, _⟩) ?_; first | (refine SL.W.call (docNew_spec) ?_; rintro _ _ ⟨db, rfl, rfl⟩; try simp only [SL.aps])) | (refine SL.TO.door (o := ⟨_, .call ⟨.value (.func 99), _, _⟩, _, _, _, _⟩) ?_; first | (refine SL.TO.entD (EntD.frm (by first | ((repeat (first | exact SL.Frm.nil | exact SL.Frm.refl | (apply SL.Frm.cons; repeat (first | exact SL.Pick.head | apply SL.Pick.tail)))); done) | fail) (sh_shut (nl := ns.length) (ns := ns) (ds := ds) rfl) (EntD.cons (p := Y) (by first | ((repeat (first | exact SL.Pick.head | apply SL.Pick.tail)); done) | fail) (EntD.cons (p := FreshD db) (by first | ((repeat (first | exact SL.Pick.head | apply SL.Pick.tail)); done) | fail) EntD.nil))) ?_; (refine SL.W.call (hlay.out _) ?_; rintro _ _ ⟨rfl, rfl⟩; try simp only [SL.aps])))) | refine SL.TO.nil ?_ | (refine SL.TO.nilD ?_; simp only [SL.setB]) | refine SL.W.pass ?_ | refine SL.W.pass0 ?_ | (refine SL.W.pure ?_; first | refine SL.W.pv ?_ | refine SL.W.pv0 ?_) | (refine SL.W.loud ?_; first | refine SL.W.load ?_ | refine SL.W.loadA ?_ | refine SL.W.store ?_ | refine SL.W.storeA ?_ | (refine SL.W.box ?_; intro b) | (refine SL.W.alloc ?_; intro b) | (refine SL.W.buildSlice ?_; intro b) | (refine SL.W.append ?_; intro a cap) | refine SL.W.bytesToStr ?_ | refine SL.W.toIntC ?_ | (refine SL.W.makeSlice ?_; intro b))) | (refine SL.TK.is ?_; first | refine SL.TK.seq ?_ | refine SL.TK.region ?_ | refine SL.TK.regionD SL.mixed (by simp only [SL.falses] <;> rfl) ?_ | refine SL.TK.block ?_ | refine SL.TK.inBlock ?_ | refine SL.TK.skip ?_ | refine SL.TK.scope ?_ | refine SL.TK.inScope ?_ | refine SL.TK.label ?_ | (refine SL.TK.isExit ?_; refine SL.W.exit ?_) | refine SL.W.condT ?_ | refine SL.W.condF ?_) | (refine SL.TD.is ?_; first | (refine SL.W.dfin ?_; simp only [SL.aps]) | refine SL.W.dpass ?_ | refine SL.W.dpure ?_ | refine SL.W.dload ?_ | refine SL.W.dloadA ?_ | refine SL.W.dfrz ?_ | (refine SL.W.dthaw ?_; simp only [SL.aps])) | ((first | refine SL.W.guardP (fun h => ?_) (fun h => ?_) | refine SL.W.condP (fun h => ?_) (fun h => ?_) | refine SL.W.dguardP (fun h => ?_) (fun h => ?_)) <;> (fail_if_success (have : h = trivial := rfl)) <;> (fail_if_success (have : h = not_false := rfl)) <;> first | contradiction | (exfalso; omega) | (exfalso; revert h; simp; done) | skip) | ((first | refine SL.W.guardB (fun h => ?_) (fun h => ?_) | refine SL.W.dguardB (fun h => ?_) (fun h => ?_)) <;> (fail_if_success (have : h = (rfl : true = true) := rfl)) <;> (fail_if_success (have : h = (rfl : false = false) := rfl))) | refine SL.W.condB (fun h => ?_) (fun h => ?_) | (refine SL.TD.is ?_; first | refine SL.W.done ?_ | refine SL.W.dtwo ?_ ?_ | refine SL.W.dthree ?_ ?_ ?_))
  exact SL.TK.retD Tryz.func70 (SL.Res.two rfl (by rfl) (by rfl)) ⟨_, rfl, rfl⟩ (EntD.cons (by first | ((repeat (first | exact SL.Pick.head | apply SL.Pick.tail)); done) | fail) (EntD.cons (by first | ((repeat (first | exact SL.Pick.head | apply SL.Pick.tail)); done) | fail) (EntD.cons (by first | ((repeat (first | exact SL.Pick.head | apply SL.Pick.tail)); done) | fail) EntD.nil)))
theorem get_no (sb : Nat) (ns : List Nm) (ds : List Nat) (j : Nat) (hj : ns.length < j) (hn : ns.length ≤ 32) (h2 : j ≤ 1000) : Spec Tryz.prog 24 [.pointer (some ⟨sb, 0, none⟩), .int .u32 j] [ShelfAt sb ns ds] (fun r L => r = .pointer none ∧ L = [ShelfAt sb ns ds]) := by
  refine SL.Spec.of_TK Go.Proofs.Tryz.func24 rfl rfl SL.call24 rfl ?_
  refine SL.TK.openSh (by first | ((repeat (first | exact SL.Pick.head | apply SL.Pick.tail)); done) | fail) (fun na nc da dc mb => ?_)
  unfold shC
  repeat' (first | (refine SL.TO.is ?_; first | (refine SL.W.quick ?_; first | refine SL.W.pass ?_ | refine SL.W.pv ?_ | refine SL.W.pv0 ?_) | (refine SL.TO.door (o := ⟨_, .call _, _, _, _, _⟩) ?_; first | (refine SL.TO.door (o := ⟨_, .call ⟨.value (.func 45), _, _⟩, _, _, _, _⟩) ?_; first | (refine SL.W.call (shNone_spec _ _ _ _) ?_; rintro _ _ ⟨rfl, rfl⟩; try simp only [SL.aps]))) | refine SL.TO.nil ?_ | (refine SL.TO.nilD ?_; simp only [SL.setB]) | refine SL.W.pass ?_ | refine SL.W.pass0 ?_ | (refine SL.W.pure ?_; first | refine SL.W.pv ?_ | refine SL.W.pv0 ?_) | (refine SL.W.loud ?_; first | refine SL.W.load ?_ | refine SL.W.loadA ?_ | refine SL.W.store ?_ | refine SL.W.storeA ?_ | (refine SL.W.box ?_; intro b) | (refine SL.W.alloc ?_; intro b) | (refine SL.W.buildSlice ?_; intro b) | (refine SL.W.append ?_; intro a cap) | refine SL.W.bytesToStr ?_ | refine SL.W.toIntC ?_ | (refine SL.W.makeSlice ?_; intro b))) | (refine SL.TK.is ?_; first | refine SL.TK.seq ?_ | refine SL.TK.region ?_ | refine SL.TK.regionD SL.mixed (by simp only [SL.falses] <;> rfl) ?_ | refine SL.TK.block ?_ | refine SL.TK.inBlock ?_ | refine SL.TK.skip ?_ | refine SL.TK.scope ?_ | refine SL.TK.inScope ?_ | refine SL.TK.label ?_ | (refine SL.TK.isExit ?_; refine SL.W.exit ?_) | refine SL.W.condT ?_ | refine SL.W.condF ?_) | (refine SL.TD.is ?_; first | (refine SL.W.dfin ?_; simp only [SL.aps]) | refine SL.W.dpass ?_ | refine SL.W.dpure ?_ | refine SL.W.dload ?_ | refine SL.W.dloadA ?_ | refine SL.W.dfrz ?_ | (refine SL.W.dthaw ?_; simp only [SL.aps])) | ((first | refine SL.W.guardP (fun h => ?_) (fun h => ?_) | refine SL.W.condP (fun h => ?_) (fun h => ?_) | refine SL.W.dguardP (fun h => ?_) (fun h => ?_)) <;> (fail_if_success (have : h = trivial := rfl)) <;> (fail_if_success (have : h = not_false := rfl)) <;> first | contradiction | (exfalso; omega) | (exfalso; revert h; simp; done) | skip) | ((first | refine SL.W.guardB (fun h => ?_) (fun h => ?_) | refine SL.W.dguardB (fun h => ?_) (fun h => ?_)) <;> (fail_if_success (have : h = (rfl : true = true) := rfl)) <;> (fail_if_success (have : h = (rfl : false = false) := rfl))) | refine SL.W.condB (fun h => ?_) (fun h => ?_) | (refine SL.TD.is ?_; first | refine SL.W.done ?_ | refine SL.W.dtwo ?_ ?_ | refine SL.W.dthree ?_ ?_ ?_))
  all_goals exact SL.TK.retD Tryz.func24 (SL.Res.one rfl (by rfl)) ⟨rfl, rfl⟩ (EntD.frm (by first | ((repeat (first | exact SL.Frm.nil | exact SL.Frm.refl | (apply SL.Frm.cons; repeat (first | exact SL.Pick.head | apply SL.Pick.tail)))); done) | fail) (sh_shut rfl) EntD.nil)
theorem get_one (sb d : Nat) (ns : List Nm) (ds : List Nat) (hd : ds.head? = some d) (hn : 0 < ns.length) (h2 : ns.length ≤ 32) : Spec Tryz.prog 24 [.pointer (some ⟨sb, 0, none⟩), .int .u32 1] [ShelfAt sb ns ds] (fun r L => r = ptrV d ∧ L = [ShelfAt sb ns ds]) := by
  obtain ⟨rest, hr⟩ : ∃ rest, ds = d :: rest := by
    cases ds with
    | nil => simp at hd
    | cons x r => simp at hd; exact ⟨r, by rw [hd]⟩
  refine SL.Spec.of_TK Go.Proofs.Tryz.func24 rfl rfl SL.call24 rfl ?_
  refine SL.TK.openSh (by first | ((repeat (first | exact SL.Pick.head | apply SL.Pick.tail)); done) | fail) (fun na nc da dc mb => ?_)
  unfold shC
  refine SL.TK.ownPos (e := 63) (sz := 1) (a := da) (m := ns.length) (by first | ((repeat (first | exact SL.Pick.head | apply SL.Pick.tail)); done) | fail) hn (fun b ex ea e1 e2 e3 => ?_)
  subst ea
  have hnth : nth (ds.map ptrV ++ ex) 0 = some (ptrV d) := by rw [hr]; rfl
  obtain ⟨cs, hcs⟩ : ∃ cs, cs = ds.map ptrV ++ ex := ⟨_, rfl⟩
  rw [← hcs] at hnth ⊢
  have hE := Lib.hid (And.intro e1 (And.intro e2 hcs))
  clear e1 e2 hcs hr hd
  repeat' (first | (refine SL.TO.is ?_; first | (refine SL.W.quick ?_; first | refine SL.W.pass ?_ | refine SL.W.pv ?_ | refine SL.W.pv0 ?_) | (refine SL.TO.door (o := ⟨_, .call _, _, _, _, _⟩) ?_; first | (refine SL.TO.door (o := ⟨_, .call ⟨.value (.func 45), _, _⟩, _, _, _, _⟩) ?_; first | (refine SL.W.call (shNone_spec _ _ _ _) ?_; rintro _ _ ⟨rfl, rfl⟩; try simp only [SL.aps]))) | (refine SL.TO.door (o := ⟨_, .indexAddr _ _ _, _, _, _, _⟩) ?_; first | refine SL.W.pvn (SL.PV.indexAddr (i' := 0) (o' := 0) (by rfl) (by rfl) (by omega) (by omega) rfl) ?_) | (refine SL.TO.door (o := ⟨_, .load _ _, _, _, _, _⟩) ?_; first | refine SL.W.loadN hnth ?_) | refine SL.TO.nil ?_ | (refine SL.TO.nilD ?_; simp only [SL.setB]) | refine SL.W.pass ?_ | refine SL.W.pass0 ?_ | (refine SL.W.pure ?_; first | refine SL.W.pv ?_ | refine SL.W.pv0 ?_) | (refine SL.W.loud ?_; first | refine SL.W.load ?_ | refine SL.W.loadA ?_ | refine SL.W.store ?_ | refine SL.W.storeA ?_ | (refine SL.W.box ?_; intro b) | (refine SL.W.alloc ?_; intro b) | (refine SL.W.buildSlice ?_; intro b) | (refine SL.W.append ?_; intro a cap) | refine SL.W.bytesToStr ?_ | refine SL.W.toIntC ?_ | (refine SL.W.makeSlice ?_; intro b))) | (refine SL.TK.is ?_; first | refine SL.TK.seq ?_ | refine SL.TK.region ?_ | refine SL.TK.regionD SL.mixed (by simp only [SL.falses] <;> rfl) ?_ | refine SL.TK.block ?_ | refine SL.TK.inBlock ?_ | refine SL.TK.skip ?_ | refine SL.TK.scope ?_ | refine SL.TK.inScope ?_ | refine SL.TK.label ?_ | (refine SL.TK.isExit ?_; refine SL.W.exit ?_) | refine SL.W.condT ?_ | refine SL.W.condF ?_) | (refine SL.TD.is ?_; first | (refine SL.W.dfin ?_; simp only [SL.aps]) | refine SL.W.dpass ?_ | refine SL.W.dpure ?_ | refine SL.W.dload ?_ | refine SL.W.dloadA ?_ | refine SL.W.dfrz ?_ | (refine SL.W.dthaw ?_; simp only [SL.aps])) | ((first | refine SL.W.guardP (fun h => ?_) (fun h => ?_) | refine SL.W.condP (fun h => ?_) (fun h => ?_) | refine SL.W.dguardP (fun h => ?_) (fun h => ?_)) <;> (fail_if_success (have : h = trivial := rfl)) <;> (fail_if_success (have : h = not_false := rfl)) <;> first | contradiction | (exfalso; omega) | (exfalso; revert h; simp; done) | skip) | ((first | refine SL.W.guardB (fun h => ?_) (fun h => ?_) | refine SL.W.dguardB (fun h => ?_) (fun h => ?_)) <;> (fail_if_success (have : h = (rfl : true = true) := rfl)) <;> (fail_if_success (have : h = (rfl : false = false) := rfl))) | refine SL.W.condB (fun h => ?_) (fun h => ?_) | (refine SL.TD.is ?_; first | refine SL.W.done ?_ | refine SL.W.dtwo ?_ ?_ | refine SL.W.dthree ?_ ?_ ?_))
  all_goals
    refine SL.TK.retD Tryz.func24 (SL.Res.one rfl (by rfl)) ⟨rfl, rfl⟩ ?_
    exact EntD.trans (EntD.of_ent (Ent.own_blk (e := 63) (sz := 1) (n := ns.length) (cap := dc) (b := b) (cs := ds.map ptrV) (extra := ex) (by first | ((repeat (first | exact SL.Pick.head | apply SL.Pick.tail)); done) | fail) hE.out.2.2 hE.out.1 hE.out.2.1 e3 Ent.refl)) (EntD.frm (by first | ((repeat (first | exact SL.Frm.nil | exact SL.Frm.refl | (apply SL.Frm.cons; repeat (first | exact SL.Pick.head | apply SL.Pick.tail)))); done) | fail) (sh_shut rfl) EntD.nil)
end SL
end
section
set_option linter.unusedVariables false
set_option linter.unusedSimpArgs false
set_option maxRecDepth 10000
namespace SL
open Go Go.Proofs Go.RowKit
theorem docs_mid {ds : List Nat} {i d : Nat} (h : ds[i]? = some d) : ds = ds.take i ++ d :: ds.drop (i + 1) := by
  obtain ⟨hl, he⟩ := List.getElem?_eq_some_iff.1 h
  rw [← he, List.getElem_cons_drop, List.take_append_drop]
theorem docs_back {ds : List Nat} {i d : Nat} (h : ds[i]? = some d) : ∀ x, seps [FreshD d, Docs (ds.take i ++ ds.drop (i + 1))] x → Docs ds x := fun x y => Eq.mpr (congrFun (congrArg Docs (docs_mid h)) x) (docs_shut _ _ _ x y)
section
variable {P : Program} {fid : Fm} {n : Nat} {post : Post} {k : List Item} {ρ : Env} {L L' r : List HProp}
theorem TK.openDocI {ds l q : List Nat} {d : Nat} (e : ds = l ++ d :: q) (hp : Pick L (Docs ds) r) (h : TK P fid n post k ρ (FreshD d :: Docs (l ++ q) :: r)) : TK P fid n post k ρ L := by
  subst e
  exact TK.openDoc hp h
end
attribute [local irreducible] SL.TK SL.TO SL.TD SL.PV SL.Pick SL.Frm SL.Ent SL.Sub SL.EvAll SL.seps SL.sep SL.Cut SL.PutAt SL.blk SL.EvP SL.Fill SL.Src SL.EntD SL.own SL.ex SL.fact SL.orig
theorem strClone_spec (a : Option Addr) (n cap : Nat) (cs : List Value) (hn : n ≤ 1000) (h1 : ∀ v ∈ cs, v.oneCell' = true) :
    Spec Tryz.prog 75 [.slice a n cap] [own 9 1 a n cap cs] (fun r L => ∃ a' cap', r = .slice a' n cap' ∧ L = [own 9 1 a n cap cs, own 9 1 a' n cap' cs]) := by
  refine SL.Spec.of_TK Go.Proofs.Tryz.func75 rfl rfl SL.call75 rfl ?_
  cases a with
  | none =>
    refine SL.TK.ownNone (e := 9) (sz := 1) (by first | ((repeat (first | exact SL.Pick.head | apply SL.Pick.tail)); done) | fail) (fun e1 e2 e3 => ?_)
    subst e1 e2 e3
    repeat' (first | (refine SL.TO.is ?_; first | (refine SL.W.quick ?_; first | refine SL.W.pass ?_ | refine SL.W.pv ?_ | refine SL.W.pv0 ?_) | refine SL.TO.nil ?_ | (refine SL.TO.nilD ?_; simp only [SL.setB]) | refine SL.W.pass ?_ | refine SL.W.pass0 ?_ | (refine SL.W.pure ?_; first | refine SL.W.pv ?_ | refine SL.W.pv0 ?_ | refine SL.W.lenMp ?_) | (refine SL.W.loud ?_; first | refine SL.W.load ?_ | refine SL.W.loadA ?_ | refine SL.W.store ?_ | refine SL.W.storeA ?_ | (refine SL.W.box ?_; intro b) | (refine SL.W.alloc ?_; intro b) | (refine SL.W.buildSlice ?_; intro b) | (refine SL.W.append ?_; intro a cap) | refine SL.W.bytesToStr ?_ | refine SL.W.toIntC ?_ | (refine SL.W.makeSlice ?_; intro b) | refine SL.W.lookupOk ?_ | refine SL.W.lookup ?_ | (refine SL.W.makeMap ?_; intro b) | refine SL.W.mapUpdate ?_ | (refine SL.W.mapEntry ?_; intro stamp) | refine SL.W.entryStore ?_ | (refine SL.W.range ?_; intro it) | refine SL.W.delete ?_)) | (refine SL.TK.is ?_; first | refine SL.TK.seq ?_ | refine SL.TK.region ?_ | refine SL.TK.regionD SL.mixed (by simp only [SL.falses] <;> rfl) ?_ | refine SL.TK.block ?_ | refine SL.TK.inBlock ?_ | refine SL.TK.skip ?_ | refine SL.TK.scope ?_ | refine SL.TK.inScope ?_ | refine SL.TK.label ?_ | (refine SL.TK.isExit ?_; refine SL.W.exit ?_) | refine SL.W.condT ?_ | refine SL.W.condF ?_) | (refine SL.TD.is ?_; first | (refine SL.W.dfin ?_; simp only [SL.aps]) | refine SL.W.dpass ?_ | refine SL.W.dpure ?_ | refine SL.W.dload ?_ | refine SL.W.dloadA ?_ | refine SL.W.dfrz ?_ | (refine SL.W.dthaw ?_; simp only [SL.aps])) | ((first | refine SL.W.guardP (fun h => ?_) (fun h => ?_) | refine SL.W.condP (fun h => ?_) (fun h => ?_) | refine SL.W.dguardP (fun h => ?_) (fun h => ?_)) <;> (fail_if_success (have : h = trivial := rfl)) <;> (fail_if_success (have : h = not_false := rfl)) <;> first | contradiction | (exfalso; omega) | (exfalso; revert h; simp; done) | skip) | ((first | refine SL.W.guardB (fun h => ?_) (fun h => ?_) | refine SL.W.dguardB (fun h => ?_) (fun h => ?_)) <;> (fail_if_success (have : h = (rfl : true = true) := rfl)) <;> (fail_if_success (have : h = (rfl : false = false) := rfl))) | refine SL.W.condB (fun h => ?_) (fun h => ?_) | (refine SL.TD.is ?_; first | refine SL.W.done ?_ | refine SL.W.dtwo ?_ ?_ | refine SL.W.dthree ?_ ?_ ?_))
    exact SL.TK.retD Tryz.func75 (SL.Res.one rfl (by rfl)) ⟨none, 0, rfl, rfl⟩ (EntD.of_ent (Ent.own_nil (Ent.own_nil Ent.refl)))
  | some q =>
    refine SL.TK.ownLen (e := 9) (sz := 1) (by first | ((repeat (first | exact SL.Pick.head | apply SL.Pick.tail)); done) | fail) (fun e1 e2 => ?_)
    repeat' (first | (refine SL.TO.is ?_; first | (refine SL.W.quick ?_; first | refine SL.W.pass ?_ | refine SL.W.pv ?_ | refine SL.W.pv0 ?_) | refine SL.TO.nil ?_ | (refine SL.TO.nilD ?_; simp only [SL.setB]) | refine SL.W.pass ?_ | refine SL.W.pass0 ?_ | (refine SL.W.pure ?_; first | refine SL.W.pv ?_ | refine SL.W.pv0 ?_ | refine SL.W.lenMp ?_) | (refine SL.W.loud ?_; first | refine SL.W.load ?_ | refine SL.W.loadA ?_ | refine SL.W.store ?_ | refine SL.W.storeA ?_ | (refine SL.W.box ?_; intro b) | (refine SL.W.alloc ?_; intro b) | (refine SL.W.buildSlice ?_; intro b) | (refine SL.W.append ?_; intro a cap) | refine SL.W.bytesToStr ?_ | refine SL.W.toIntC ?_ | (refine SL.W.makeSlice ?_; intro b) | refine SL.W.lookupOk ?_ | refine SL.W.lookup ?_ | (refine SL.W.makeMap ?_; intro b) | refine SL.W.mapUpdate ?_ | (refine SL.W.mapEntry ?_; intro stamp) | refine SL.W.entryStore ?_ | (refine SL.W.range ?_; intro it) | refine SL.W.delete ?_)) | (refine SL.TK.is ?_; first | refine SL.TK.seq ?_ | refine SL.TK.region ?_ | refine SL.TK.regionD SL.mixed (by simp only [SL.falses] <;> rfl) ?_ | refine SL.TK.block ?_ | refine SL.TK.inBlock ?_ | refine SL.TK.skip ?_ | refine SL.TK.scope ?_ | refine SL.TK.inScope ?_ | refine SL.TK.label ?_ | (refine SL.TK.isExit ?_; refine SL.W.exit ?_) | refine SL.W.condT ?_ | refine SL.W.condF ?_) | (refine SL.TD.is ?_; first | (refine SL.W.dfin ?_; simp only [SL.aps]) | refine SL.W.dpass ?_ | refine SL.W.dpure ?_ | refine SL.W.dload ?_ | refine SL.W.dloadA ?_ | refine SL.W.dfrz ?_ | (refine SL.W.dthaw ?_; simp only [SL.aps])) | ((first | refine SL.W.guardP (fun h => ?_) (fun h => ?_) | refine SL.W.condP (fun h => ?_) (fun h => ?_) | refine SL.W.dguardP (fun h => ?_) (fun h => ?_)) <;> (fail_if_success (have : h = trivial := rfl)) <;> (fail_if_success (have : h = not_false := rfl)) <;> first | contradiction | (exfalso; omega) | (exfalso; revert h; simp; done) | skip) | ((first | refine SL.W.guardB (fun h => ?_) (fun h => ?_) | refine SL.W.dguardB (fun h => ?_) (fun h => ?_)) <;> (fail_if_success (have : h = (rfl : true = true) := rfl)) <;> (fail_if_success (have : h = (rfl : false = false) := rfl))) | refine SL.W.condB (fun h => ?_) (fun h => ?_) | (refine SL.TD.is ?_; first | refine SL.W.done ?_ | refine SL.W.dtwo ?_ ?_ | refine SL.W.dthree ?_ ?_ ?_))
    exact SL.TK.retD Tryz.func75 (SL.Res.one rfl (by rfl)) ⟨_, _, rfl, rfl⟩ (EntD.cons (by first | ((repeat (first | exact SL.Pick.head | apply SL.Pick.tail)); done) | fail) (EntD.cons (by first | ((repeat (first | exact SL.Pick.head | apply SL.Pick.tail)); done) | fail) EntD.nil))
theorem nmClone_ext (mb : Nat) (l : List (Nm × Value)) : Ext Tryz.prog 52 [.iface 103 (.map (some mb))] [mp strV mb l] (fun r L => ∃ b, r = .iface 103 (.map (some b)) ∧ L = [mp strV b l, mp strV mb l]) :=
  Ext.clone Tryz.func52 (by kernel_rfl) (by kernel_rfl) (by kernel_rfl) (by kernel_rfl)
theorem nmClone_spec (mb : Nat) (l : List (Nm × Value)) : Spec Tryz.prog 76 [.map (some mb)] [mp strV mb l] (fun r L => ∃ b, r = .map (some b) ∧ L = [mp strV mb l, mp strV b l]) := by
  have hE := Lib.hid (nmClone_ext mb l)
  refine SL.Spec.of_TK Go.Proofs.Tryz.func76 rfl rfl SL.call76 rfl ?_
  repeat' (first | (refine SL.TO.is ?_; first | (refine SL.TO.door (o := ⟨_, .makeInterface _ _, _, _, _, _⟩) ?_; refine SL.W.pvn (PV.ifaceM (by rfl)) ?_) | (refine SL.TO.door (o := ⟨_, .typeAssert _ _ _ _, _, _, _, _⟩) ?_; refine SL.W.pvn (PV.assertM (by rfl)) ?_) | (refine SL.W.quick ?_; first | refine SL.W.pass ?_ | refine SL.W.pv ?_ | refine SL.W.pv0 ?_) | (refine SL.TO.door (o := ⟨_, .call _, _, _, _, _⟩) ?_; first | (refine SL.TO.door (o := ⟨_, .call ⟨.value (.func 52), _, _⟩, _, _, _, _⟩) ?_; first | (refine SL.W.callExt hE.out ?_; rintro _ _ ⟨b7, rfl, rfl⟩; try simp only [SL.aps]))) | refine SL.TO.nil ?_ | (refine SL.TO.nilD ?_; simp only [SL.setB]) | refine SL.W.pass ?_ | refine SL.W.pass0 ?_ | (refine SL.W.pure ?_; first | refine SL.W.pv ?_ | refine SL.W.pv0 ?_ | refine SL.W.lenMp ?_) | (refine SL.W.loud ?_; first | refine SL.W.load ?_ | refine SL.W.loadA ?_ | refine SL.W.store ?_ | refine SL.W.storeA ?_ | (refine SL.W.box ?_; intro b) | (refine SL.W.alloc ?_; intro b) | (refine SL.W.buildSlice ?_; intro b) | (refine SL.W.append ?_; intro a cap) | refine SL.W.bytesToStr ?_ | refine SL.W.toIntC ?_ | (refine SL.W.makeSlice ?_; intro b) | refine SL.W.lookupOk ?_ | refine SL.W.lookup ?_ | (refine SL.W.makeMap ?_; intro b) | refine SL.W.mapUpdate ?_ | (refine SL.W.mapEntry ?_; intro stamp) | refine SL.W.entryStore ?_ | (refine SL.W.range ?_; intro it) | refine SL.W.delete ?_)) | (refine SL.TK.is ?_; first | refine SL.TK.seq ?_ | refine SL.TK.region ?_ | refine SL.TK.regionD SL.mixed (by simp only [SL.falses] <;> rfl) ?_ | refine SL.TK.block ?_ | refine SL.TK.inBlock ?_ | refine SL.TK.skip ?_ | refine SL.TK.scope ?_ | refine SL.TK.inScope ?_ | refine SL.TK.label ?_ | (refine SL.TK.isExit ?_; refine SL.W.exit ?_) | refine SL.W.condT ?_ | refine SL.W.condF ?_) | (refine SL.TD.is ?_; first | (refine SL.W.dfin ?_; simp only [SL.aps]) | refine SL.W.dpass ?_ | refine SL.W.dpure ?_ | refine SL.W.dload ?_ | refine SL.W.dloadA ?_ | refine SL.W.dfrz ?_ | (refine SL.W.dthaw ?_; simp only [SL.aps])) | ((first | refine SL.W.guardP (fun h => ?_) (fun h => ?_) | refine SL.W.condP (fun h => ?_) (fun h => ?_) | refine SL.W.dguardP (fun h => ?_) (fun h => ?_)) <;> (fail_if_success (have : h = trivial := rfl)) <;> (fail_if_success (have : h = not_false := rfl)) <;> first | contradiction | (exfalso; omega) | (exfalso; revert h; simp; done) | skip) | ((first | refine SL.W.guardB (fun h => ?_) (fun h => ?_) | refine SL.W.dguardB (fun h => ?_) (fun h => ?_)) <;> (fail_if_success (have : h = (rfl : true = true) := rfl)) <;> (fail_if_success (have : h = (rfl : false = false) := rfl))) | refine SL.W.condB (fun h => ?_) (fun h => ?_) | (refine SL.TD.is ?_; first | refine SL.W.done ?_ | refine SL.W.dtwo ?_ ?_ | refine SL.W.dthree ?_ ?_ ?_))
  all_goals exact SL.TK.retD Tryz.func76 (SL.Res.one rfl (by rfl)) ⟨_, rfl, rfl⟩ (EntD.cons (by first | ((repeat (first | exact SL.Pick.head | apply SL.Pick.tail)); done) | fail) (EntD.cons (by first | ((repeat (first | exact SL.Pick.head | apply SL.Pick.tail)); done) | fail) EntD.nil))
def cpI (sb cb b0 n nc dc mb nc2 mb2 : Nat) (na na2 : Option Addr) (ns : List Nm) (ds : List Nat) (cs : List Value) (ρ : Env) (L : List HProp) (me : Nat) : Prop := ∃ (i dc2 : Nat) (da2 : Option Addr) (ds' : List Nat), i ≤ n ∧ ds'.length = i ∧
  ρ = [(3, .pointer (some ⟨cb, 0, none⟩)), (23, .slice (some ⟨b0, 0, none⟩) n dc), (24, .int .i64 n), (25, .int .i64 i)] ∧
  L = [SL.blk sb 105 [.slice na n nc, .slice (some ⟨b0, 0, none⟩) n dc, .map (some mb)], own 9 1 na n nc (ns.map strV), SL.blk b0 63 cs, mp strV mb (nmF ns 0), Docs ds,
    SL.blk cb 105 [.slice na2 n nc2, .slice da2 i dc2, .map (some mb2)], own 9 1 na2 n nc2 (ns.map strV), own 63 1 da2 i dc2 (ds'.map ptrV), mp strV mb2 (nmF ns 0), Docs ds'] ∧ me = n - i
set_option maxHeartbeats 4000000 in
theorem shCopy_spec (sb : Nat) (ns : List Nm) (ds : List Nat) (hn : ns.length ≤ 32) (hd : ds.length = ns.length) : Spec Tryz.prog 51 [.pointer (some ⟨sb, 0, none⟩)] [ShelfAt sb ns ds, Docs ds]
    (fun r L => ∃ cb ds', r = .pointer (some ⟨cb, 0, none⟩) ∧ ds'.length = ns.length ∧ L = [ShelfAt cb ns ds', Docs ds', ShelfAt sb ns ds, Docs ds]) := by
  have h1n : ∀ v ∈ ns.map strV, v.oneCell' = true := by simp [Value.oneCell', strV]
  have hS := Lib.hid fun (a : Option Addr) (c : Nat) => strClone_spec a ns.length c (ns.map strV) (by omega) h1n
  have hM := Lib.hid fun (mb : Nat) => nmClone_spec mb (nmF ns 0)
  have hD := Lib.hid fun (d : Nat) => SL.Spec.postD (docCopy_spec d) (post' := fun r L => ∃ cb, r = .pointer (some ⟨cb, 0, none⟩) ∧ L = [FreshD d, FreshD cb]) (fun v L h => by
    obtain ⟨cb, rfl, rfl⟩ := h
    exact ⟨_, ⟨cb, rfl, rfl⟩, EntD.cons (by first | ((repeat (first | exact SL.Pick.head | apply SL.Pick.tail)); done) | fail) (EntD.cons (by first | ((repeat (first | exact SL.Pick.head | apply SL.Pick.tail)); done) | fail) EntD.nil)⟩)
  clear h1n
  refine SL.Spec.of_TK Go.Proofs.Tryz.func51 rfl rfl SL.call51 rfl ?_
  refine SL.TK.openSh (by first | ((repeat (first | exact SL.Pick.head | apply SL.Pick.tail)); done) | fail) (fun na nc da dc mb => ?_)
  unfold shC
  by_cases h0 : ns.length = 0
  · have hns : ns = [] := List.eq_nil_of_length_eq_zero h0
    subst hns
    have hds : ds = [] := List.eq_nil_of_length_eq_zero hd
    subst hds
    repeat' (first | (refine SL.TO.is ?_; first | (refine SL.W.quick ?_; first | refine SL.W.pass ?_ | refine SL.W.pv ?_ | refine SL.W.pv0 ?_) | (refine SL.TO.door (o := ⟨_, .call _, _, _, _, _⟩) ?_; first | (refine SL.TO.door (o := ⟨_, .call ⟨.value (.func 45), _, _⟩, _, _, _, _⟩) ?_; first | (refine SL.W.call (shNone_spec _ _ _ _) ?_; rintro _ _ ⟨rfl, rfl⟩; try simp only [SL.aps])) | (refine SL.TO.door (o := ⟨_, .call ⟨.value (.func 75), _, _⟩, _, _, _, _⟩) ?_; first | (refine SL.W.callG (hS.out _ _) ?_; rintro _ _ ⟨a2, c2, rfl, rfl⟩; refine ⟨[own 9 1 a2 ([] : List Nm).length c2 (([] : List Nm).map strV)], rfl, ?_⟩; try simp only [SL.aps])) | (refine SL.TO.door (o := ⟨_, .call ⟨.value (.func 76), _, _⟩, _, _, _, _⟩) ?_; first | (refine SL.W.callG (hM.out _) ?_; rintro _ _ ⟨b2, rfl, rfl⟩; refine ⟨[mp strV b2 (nmF [] 0)], rfl, ?_⟩; try simp only [SL.aps]))) | refine SL.TO.nil ?_ | (refine SL.TO.nilD ?_; simp only [SL.setB]) | refine SL.W.pass ?_ | refine SL.W.pass0 ?_ | (refine SL.W.pure ?_; first | refine SL.W.pv ?_ | refine SL.W.pv0 ?_ | refine SL.W.lenMp ?_) | (refine SL.W.loud ?_; first | refine SL.W.load ?_ | refine SL.W.loadA ?_ | refine SL.W.store ?_ | refine SL.W.storeA ?_ | (refine SL.W.box ?_; intro b) | (refine SL.W.alloc ?_; intro b) | (refine SL.W.buildSlice ?_; intro b) | (refine SL.W.append ?_; intro a cap) | refine SL.W.bytesToStr ?_ | refine SL.W.toIntC ?_ | (refine SL.W.makeSlice ?_; intro b) | refine SL.W.lookupOk ?_ | refine SL.W.lookup ?_ | (refine SL.W.makeMap ?_; intro b) | refine SL.W.mapUpdate ?_ | (refine SL.W.mapEntry ?_; intro stamp) | refine SL.W.entryStore ?_ | (refine SL.W.range ?_; intro it) | refine SL.W.delete ?_)) | (refine SL.TK.lp ?_; first | (refine SL.TK.block ?_; refine SL.TK.enter ?_)) | (refine SL.TK.is ?_; first | refine SL.TK.seq ?_ | refine SL.TK.region ?_ | refine SL.TK.regionD SL.mixed (by simp only [SL.falses] <;> rfl) ?_ | refine SL.TK.block ?_ | refine SL.TK.inBlock ?_ | refine SL.TK.skip ?_ | refine SL.TK.scope ?_ | refine SL.TK.inScope ?_ | refine SL.TK.label ?_ | (refine SL.TK.isExit ?_; refine SL.W.exit ?_) | refine SL.W.condT ?_ | refine SL.W.condF ?_) | (refine SL.TD.is ?_; first | (refine SL.W.dfin ?_; simp only [SL.aps]) | refine SL.W.dpass ?_ | refine SL.W.dpure ?_ | refine SL.W.dload ?_ | refine SL.W.dloadA ?_ | refine SL.W.dfrz ?_ | (refine SL.W.dthaw ?_; simp only [SL.aps])) | ((first | refine SL.W.guardP (fun h => ?_) (fun h => ?_) | refine SL.W.condP (fun h => ?_) (fun h => ?_) | refine SL.W.dguardP (fun h => ?_) (fun h => ?_)) <;> (fail_if_success (have : h = trivial := rfl)) <;> (fail_if_success (have : h = not_false := rfl)) <;> first | contradiction | (exfalso; omega) | (exfalso; revert h; simp; done) | skip) | ((first | refine SL.W.guardB (fun h => ?_) (fun h => ?_) | refine SL.W.dguardB (fun h => ?_) (fun h => ?_)) <;> (fail_if_success (have : h = (rfl : true = true) := rfl)) <;> (fail_if_success (have : h = (rfl : false = false) := rfl))) | refine SL.W.condB (fun h => ?_) (fun h => ?_) | (refine SL.TD.is ?_; first | refine SL.W.done ?_ | refine SL.W.dtwo ?_ ?_ | refine SL.W.dthree ?_ ?_ ?_))
    all_goals
      refine SL.TK.retD Tryz.func51 (SL.Res.one rfl (by rfl)) ⟨_, [], rfl, rfl, rfl⟩ ?_
      exact EntD.trans docs_nil (EntD.trans (EntD.of_ent (Ent.own_nil (e := 63) (sz := 1) Ent.refl)) (EntD.frm (by first | ((repeat (first | exact SL.Frm.nil | exact SL.Frm.refl | (apply SL.Frm.cons; repeat (first | exact SL.Pick.head | apply SL.Pick.tail)))); done) | fail) (sh_shut (sb := b) (ns := []) (ds := []) rfl) (EntD.cons (by first | ((repeat (first | exact SL.Pick.head | apply SL.Pick.tail)); done) | fail) (EntD.frm (by first | ((repeat (first | exact SL.Frm.nil | exact SL.Frm.refl | (apply SL.Frm.cons; repeat (first | exact SL.Pick.head | apply SL.Pick.tail)))); done) | fail) (sh_shut (sb := sb) (ns := []) (ds := []) rfl) (EntD.cons (by first | ((repeat (first | exact SL.Pick.head | apply SL.Pick.tail)); done) | fail) EntD.nil)))))
  · have hpos : 0 < ns.length := by omega
    refine SL.TK.ownPos (e := 63) (sz := 1) (a := da) (m := ns.length) (by first | ((repeat (first | exact SL.Pick.head | apply SL.Pick.tail)); done) | fail) hpos (fun b0 ex ea e1 e2 e3 => ?_)
    subst ea
    have hnth : ∀ (i d : Nat), ds[i]? = some d → nth (ds.map ptrV ++ ex) i = some (ptrV d) := by
      intro i d h
      have hl := (List.getElem?_eq_some_iff.1 h).1
      rw [nth_eq, List.getElem?_append_left (by simpa using hl)]
      simp [h]
    have hcl : ds.length ≤ (ds.map ptrV ++ ex).length := by simp
    obtain ⟨cs, hcs⟩ : ∃ cs, cs = ds.map ptrV ++ ex := ⟨_, rfl⟩
    rw [← hcs] at hnth hcl ⊢
    obtain ⟨n, hnn⟩ : ∃ n, n = ns.length := ⟨_, rfl⟩
    rw [← hnn] at hS hn hd hpos h0 e1 ⊢
    try rw [← hnn] at e2
    try rw [← hnn] at e3
    have hE := Lib.hid (And.intro e1 (And.intro e2 hcs))
    have hX := Lib.hid hnth
    have hD2 := Lib.hid hd
    have hN := Lib.hid hnn
    clear e1 e2 hcs hnth hnn
    repeat' (first | (refine SL.TO.is ?_; first | (refine SL.W.quick ?_; first | refine SL.W.pass ?_ | refine SL.W.pv ?_ | refine SL.W.pv0 ?_) | (refine SL.TO.door (o := ⟨_, .call _, _, _, _, _⟩) ?_; first | (refine SL.TO.door (o := ⟨_, .call ⟨.value (.func 45), _, _⟩, _, _, _, _⟩) ?_; first | (refine SL.W.call (shNone_spec _ _ _ _) ?_; rintro _ _ ⟨rfl, rfl⟩; try simp only [SL.aps])) | (refine SL.TO.door (o := ⟨_, .call ⟨.value (.func 75), _, _⟩, _, _, _, _⟩) ?_; first | (refine SL.W.callG (hS.out _ _) ?_; rintro _ _ ⟨a2, c2, rfl, rfl⟩; refine ⟨[own 9 1 a2 n c2 (ns.map strV)], rfl, ?_⟩; try simp only [SL.aps])) | (refine SL.TO.door (o := ⟨_, .call ⟨.value (.func 76), _, _⟩, _, _, _, _⟩) ?_; first | (refine SL.W.callG (hM.out _) ?_; rintro _ _ ⟨b2, rfl, rfl⟩; refine ⟨[mp strV b2 (nmF ns 0)], rfl, ?_⟩; try simp only [SL.aps]))) | refine SL.TO.nil ?_ | (refine SL.TO.nilD ?_; simp only [SL.setB]) | refine SL.W.pass ?_ | refine SL.W.pass0 ?_ | (refine SL.W.pure ?_; first | refine SL.W.pv ?_ | refine SL.W.pv0 ?_ | refine SL.W.lenMp ?_) | (refine SL.W.loud ?_; first | refine SL.W.load ?_ | refine SL.W.loadA ?_ | refine SL.W.store ?_ | refine SL.W.storeA ?_ | (refine SL.W.box ?_; intro b) | (refine SL.W.alloc ?_; intro b) | (refine SL.W.buildSlice ?_; intro b) | (refine SL.W.append ?_; intro a cap) | refine SL.W.bytesToStr ?_ | refine SL.W.toIntC ?_ | (refine SL.W.makeSlice ?_; intro b) | refine SL.W.lookupOk ?_ | refine SL.W.lookup ?_ | (refine SL.W.makeMap ?_; intro b) | refine SL.W.mapUpdate ?_ | (refine SL.W.mapEntry ?_; intro stamp) | refine SL.W.entryStore ?_ | (refine SL.W.range ?_; intro it) | refine SL.W.delete ?_)) | (refine SL.TK.lp ?_; first | (refine SL.TK.block ?_; refine SL.TK.loopD (cpI sb b b0 n nc dc mb c2 b2 na a2 ns ds cs) ?_ ⟨0, 0, none, [], by omega, rfl, rfl, rfl, rfl⟩ (by first | ((repeat (first | exact SL.Sub.nil | refine SL.Sub.cons (by rfl) (by first | rfl | exact SL.int_eq (by omega)) ?_)); done) | fail) (EntD.trans docs_nil (EntD.trans (EntD.of_ent (Ent.own_nil (e := 63) (sz := 1) Ent.refl)) (EntD.cons (by first | ((repeat (first | exact SL.Pick.head | apply SL.Pick.tail)); done) | fail) (EntD.cons (by first | ((repeat (first | exact SL.Pick.head | apply SL.Pick.tail)); done) | fail) (EntD.cons (by first | ((repeat (first | exact SL.Pick.head | apply SL.Pick.tail)); done) | fail) (EntD.cons (by first | ((repeat (first | exact SL.Pick.head | apply SL.Pick.tail)); done) | fail) (EntD.cons (by first | ((repeat (first | exact SL.Pick.head | apply SL.Pick.tail)); done) | fail) (EntD.cons (by first | ((repeat (first | exact SL.Pick.head | apply SL.Pick.tail)); done) | fail) (EntD.cons (by first | ((repeat (first | exact SL.Pick.head | apply SL.Pick.tail)); done) | fail) (EntD.cons (by first | ((repeat (first | exact SL.Pick.head | apply SL.Pick.tail)); done) | fail) (EntD.cons (by first | ((repeat (first | exact SL.Pick.head | apply SL.Pick.tail)); done) | fail) (EntD.cons (by first | ((repeat (first | exact SL.Pick.head | apply SL.Pick.tail)); done) | fail) (EntD.nil))))))))))))) )) | (refine SL.TK.is ?_; first | refine SL.TK.seq ?_ | refine SL.TK.region ?_ | refine SL.TK.regionD SL.mixed (by simp only [SL.falses] <;> rfl) ?_ | refine SL.TK.block ?_ | refine SL.TK.inBlock ?_ | refine SL.TK.skip ?_ | refine SL.TK.scope ?_ | refine SL.TK.inScope ?_ | refine SL.TK.label ?_ | (refine SL.TK.isExit ?_; refine SL.W.exit ?_) | refine SL.W.condT ?_ | refine SL.W.condF ?_) | (refine SL.TD.is ?_; first | (refine SL.W.dfin ?_; simp only [SL.aps]) | refine SL.W.dpass ?_ | refine SL.W.dpure ?_ | refine SL.W.dload ?_ | refine SL.W.dloadA ?_ | refine SL.W.dfrz ?_ | (refine SL.W.dthaw ?_; simp only [SL.aps])) | ((first | refine SL.W.guardP (fun h => ?_) (fun h => ?_) | refine SL.W.condP (fun h => ?_) (fun h => ?_) | refine SL.W.dguardP (fun h => ?_) (fun h => ?_)) <;> (fail_if_success (have : h = trivial := rfl)) <;> (fail_if_success (have : h = not_false := rfl)) <;> first | contradiction | (exfalso; omega) | (exfalso; revert h; simp; done) | skip) | ((first | refine SL.W.guardB (fun h => ?_) (fun h => ?_) | refine SL.W.dguardB (fun h => ?_) (fun h => ?_)) <;> (fail_if_success (have : h = (rfl : true = true) := rfl)) <;> (fail_if_success (have : h = (rfl : false = false) := rfl))) | refine SL.W.condB (fun h => ?_) (fun h => ?_) | (refine SL.TD.is ?_; first | refine SL.W.done ?_ | refine SL.W.dtwo ?_ ?_ | refine SL.W.dthree ?_ ?_ ?_))
    rintro ρ L m ⟨i, dc2, da2, ds', hi, hdl, rfl, rfl, rfl⟩ ih
    have hL := Lib.hid hdl
    clear hdl
    by_cases hin : i < n
    · obtain ⟨d, hdi⟩ : ∃ d, ds[i]? = some d := ⟨_, List.getElem?_eq_getElem (by omega)⟩
      have hcell := hX.out i d hdi
      have hB := Lib.hid (docs_back hdi)
      refine SL.TK.openDocI (docs_mid hdi) (by first | ((repeat (first | exact SL.Pick.head | apply SL.Pick.tail)); done) | fail) ?_
      obtain ⟨dsx, hdsx⟩ : ∃ dsx, dsx = ds.take i ++ ds.drop (i + 1) := ⟨_, rfl⟩
      rw [← hdsx] at hB ⊢
      clear hdsx hdi
      repeat' (first | (refine SL.TO.is ?_; first | (refine SL.W.quick ?_; first | refine SL.W.pass ?_ | refine SL.W.pv ?_ | refine SL.W.pv0 ?_) | (refine SL.TO.door (o := ⟨_, .call _, _, _, _, _⟩) ?_; first | (refine SL.TO.door (o := ⟨_, .call ⟨.value (.func 77), _, _⟩, _, _, _, _⟩) ?_; first | (refine SL.W.callG (hD.out _) ?_; rintro _ _ ⟨c4, rfl, rfl⟩; refine ⟨[FreshD c4], rfl, ?_⟩; try simp only [SL.aps])) | (refine SL.TO.door (o := ⟨_, .call ⟨.builtin .append, _, _⟩, _, _, _, _⟩) ?_; first | (refine SL.W.append ?_; intro a3 c3))) | (refine SL.TO.door (o := ⟨_, .load _ _, _, _, _, _⟩) ?_; first | refine SL.W.loadN hcell ?_) | refine SL.TO.nil ?_ | (refine SL.TO.nilD ?_; simp only [SL.setB]) | refine SL.W.pass ?_ | refine SL.W.pass0 ?_ | (refine SL.W.pure ?_; first | refine SL.W.pv ?_ | refine SL.W.pv0 ?_ | refine SL.W.lenMp ?_) | (refine SL.W.loud ?_; first | refine SL.W.load ?_ | refine SL.W.loadA ?_ | refine SL.W.store ?_ | refine SL.W.storeA ?_ | (refine SL.W.box ?_; intro b) | (refine SL.W.alloc ?_; intro b) | (refine SL.W.buildSlice ?_; intro b) | (refine SL.W.append ?_; intro a cap) | refine SL.W.bytesToStr ?_ | refine SL.W.toIntC ?_ | (refine SL.W.makeSlice ?_; intro b) | refine SL.W.lookupOk ?_ | refine SL.W.lookup ?_ | (refine SL.W.makeMap ?_; intro b) | refine SL.W.mapUpdate ?_ | (refine SL.W.mapEntry ?_; intro stamp) | refine SL.W.entryStore ?_ | (refine SL.W.range ?_; intro it) | refine SL.W.delete ?_)) | (refine SL.TK.is ?_; first | refine SL.TK.seq ?_ | refine SL.TK.region ?_ | refine SL.TK.regionD SL.mixed (by simp only [SL.falses] <;> rfl) ?_ | refine SL.TK.block ?_ | refine SL.TK.inBlock ?_ | refine SL.TK.skip ?_ | refine SL.TK.scope ?_ | refine SL.TK.inScope ?_ | refine SL.TK.label ?_ | (refine SL.TK.isExit ?_; refine SL.W.exit ?_) | refine SL.W.condT ?_ | refine SL.W.condF ?_) | (refine SL.TD.is ?_; first | (refine SL.W.dfin ?_; simp only [SL.aps]) | refine SL.W.dpass ?_ | refine SL.W.dpure ?_ | refine SL.W.dload ?_ | refine SL.W.dloadA ?_ | refine SL.W.dfrz ?_ | (refine SL.W.dthaw ?_; simp only [SL.aps])) | ((first | refine SL.W.guardP (fun h => ?_) (fun h => ?_) | refine SL.W.condP (fun h => ?_) (fun h => ?_) | refine SL.W.dguardP (fun h => ?_) (fun h => ?_)) <;> (fail_if_success (have : h = trivial := rfl)) <;> (fail_if_success (have : h = not_false := rfl)) <;> first | contradiction | (exfalso; omega) | (exfalso; revert h; simp; done) | skip) | ((first | refine SL.W.guardB (fun h => ?_) (fun h => ?_) | refine SL.W.dguardB (fun h => ?_) (fun h => ?_)) <;> (fail_if_success (have : h = (rfl : true = true) := rfl)) <;> (fail_if_success (have : h = (rfl : false = false) := rfl))) | refine SL.W.condB (fun h => ?_) (fun h => ?_) | (refine SL.TD.is ?_; first | refine SL.W.done ?_ | refine SL.W.dtwo ?_ ?_ | refine SL.W.dthree ?_ ?_ ?_))
      have hm2 : ds'.map ptrV ++ [Value.pointer (some ⟨c4, 0, none⟩)] = (ds' ++ [c4]).map ptrV := by simp [ptrV]
      rw [hm2]
      exact SL.TK.againD ih ⟨i + 1, c3, a3, ds' ++ [c4], by omega, by simp [hL.out], rfl, rfl, rfl⟩ (by first | ((repeat (first | exact SL.Sub.nil | refine SL.Sub.cons (by rfl) (by first | rfl | exact SL.int_eq (by omega)) ?_)); done) | fail) (EntD.cons (by first | ((repeat (first | exact SL.Pick.head | apply SL.Pick.tail)); done) | fail) (EntD.cons (by first | ((repeat (first | exact SL.Pick.head | apply SL.Pick.tail)); done) | fail) (EntD.cons (by first | ((repeat (first | exact SL.Pick.head | apply SL.Pick.tail)); done) | fail) (EntD.cons (by first | ((repeat (first | exact SL.Pick.head | apply SL.Pick.tail)); done) | fail) (EntD.frm (by first | ((repeat (first | exact SL.Frm.nil | exact SL.Frm.refl | (apply SL.Frm.cons; repeat (first | exact SL.Pick.head | apply SL.Pick.tail)))); done) | fail) hB.out (EntD.cons (by first | ((repeat (first | exact SL.Pick.head | apply SL.Pick.tail)); done) | fail) (EntD.cons (by first | ((repeat (first | exact SL.Pick.head | apply SL.Pick.tail)); done) | fail) (EntD.cons (by first | ((repeat (first | exact SL.Pick.head | apply SL.Pick.tail)); done) | fail) (EntD.cons (by first | ((repeat (first | exact SL.Pick.head | apply SL.Pick.tail)); done) | fail) (EntD.frm (by first | ((repeat (first | exact SL.Frm.nil | exact SL.Frm.refl | (apply SL.Frm.cons; repeat (first | exact SL.Pick.head | apply SL.Pick.tail)))); done) | fail) (docs_snoc ds' c4) EntD.nil)))))))))) (by omega)
    · repeat' (first | (refine SL.TO.is ?_; first | (refine SL.W.quick ?_; first | refine SL.W.pass ?_ | refine SL.W.pv ?_ | refine SL.W.pv0 ?_) | refine SL.TO.nil ?_ | (refine SL.TO.nilD ?_; simp only [SL.setB]) | refine SL.W.pass ?_ | refine SL.W.pass0 ?_ | (refine SL.W.pure ?_; first | refine SL.W.pv ?_ | refine SL.W.pv0 ?_ | refine SL.W.lenMp ?_) | (refine SL.W.loud ?_; first | refine SL.W.load ?_ | refine SL.W.loadA ?_ | refine SL.W.store ?_ | refine SL.W.storeA ?_ | (refine SL.W.box ?_; intro b) | (refine SL.W.alloc ?_; intro b) | (refine SL.W.buildSlice ?_; intro b) | (refine SL.W.append ?_; intro a cap) | refine SL.W.bytesToStr ?_ | refine SL.W.toIntC ?_ | (refine SL.W.makeSlice ?_; intro b) | refine SL.W.lookupOk ?_ | refine SL.W.lookup ?_ | (refine SL.W.makeMap ?_; intro b) | refine SL.W.mapUpdate ?_ | (refine SL.W.mapEntry ?_; intro stamp) | refine SL.W.entryStore ?_ | (refine SL.W.range ?_; intro it) | refine SL.W.delete ?_)) | (refine SL.TK.is ?_; first | refine SL.TK.seq ?_ | refine SL.TK.region ?_ | refine SL.TK.regionD SL.mixed (by simp only [SL.falses] <;> rfl) ?_ | refine SL.TK.block ?_ | refine SL.TK.inBlock ?_ | refine SL.TK.skip ?_ | refine SL.TK.scope ?_ | refine SL.TK.inScope ?_ | refine SL.TK.label ?_ | (refine SL.TK.isExit ?_; refine SL.W.exit ?_) | refine SL.W.condT ?_ | refine SL.W.condF ?_) | (refine SL.TD.is ?_; first | (refine SL.W.dfin ?_; simp only [SL.aps]) | refine SL.W.dpass ?_ | refine SL.W.dpure ?_ | refine SL.W.dload ?_ | refine SL.W.dloadA ?_ | refine SL.W.dfrz ?_ | (refine SL.W.dthaw ?_; simp only [SL.aps])) | ((first | refine SL.W.guardP (fun h => ?_) (fun h => ?_) | refine SL.W.condP (fun h => ?_) (fun h => ?_) | refine SL.W.dguardP (fun h => ?_) (fun h => ?_)) <;> (fail_if_success (have : h = trivial := rfl)) <;> (fail_if_success (have : h = not_false := rfl)) <;> first | contradiction | (exfalso; omega) | (exfalso; revert h; simp; done) | skip) | ((first | refine SL.W.guardB (fun h => ?_) (fun h => ?_) | refine SL.W.dguardB (fun h => ?_) (fun h => ?_)) <;> (fail_if_success (have : h = (rfl : true = true) := rfl)) <;> (fail_if_success (have : h = (rfl : false = false) := rfl))) | refine SL.W.condB (fun h => ?_) (fun h => ?_) | (refine SL.TD.is ?_; first | refine SL.W.done ?_ | refine SL.W.dtwo ?_ ?_ | refine SL.W.dthree ?_ ?_ ?_))
      have hi2 : i = n := by omega
      subst hi2
      refine SL.TK.retD Tryz.func51 (SL.Res.one rfl (by rfl)) ⟨_, ds', rfl, hL.out, rfl⟩ ?_
      exact EntD.trans (EntD.of_ent (Ent.own_blk (e := 63) (sz := 1) (n := i) (cap := dc) (b := b0) (cs := ds.map ptrV) (extra := ex) (by first | ((repeat (first | exact SL.Pick.head | apply SL.Pick.tail)); done) | fail) hE.out.2.2 hE.out.1 hE.out.2.1 e3 Ent.refl)) (EntD.frm (by first | ((repeat (first | exact SL.Frm.nil | exact SL.Frm.refl | (apply SL.Frm.cons; repeat (first | exact SL.Pick.head | apply SL.Pick.tail)))); done) | fail) (sh_shut hN.out) (EntD.cons (by first | ((repeat (first | exact SL.Pick.head | apply SL.Pick.tail)); done) | fail) (EntD.frm (by first | ((repeat (first | exact SL.Frm.nil | exact SL.Frm.refl | (apply SL.Frm.cons; repeat (first | exact SL.Pick.head | apply SL.Pick.tail)))); done) | fail) (sh_shut hN.out) (EntD.cons (by first | ((repeat (first | exact SL.Pick.head | apply SL.Pick.tail)); done) | fail) EntD.nil))))
end SL
end
section
set_option linter.unusedVariables false
set_option linter.unusedSimpArgs false
set_option maxRecDepth 10000
namespace SL
open Go Go.Proofs Go.RowKit
attribute [local irreducible] SL.TK SL.TO SL.TD SL.PV SL.Pick SL.Frm SL.Ent SL.Sub SL.EvAll SL.seps SL.sep SL.Cut SL.PutAt SL.blk SL.EvP SL.Fill SL.Src SL.EntD SL.own SL.ex SL.fact SL.orig
theorem wStr_spec (wb : Nat) (bs q : List UInt8) (hl : bs.length ≤ 10000000000) (hq : q.length ≤ 10000000000) : Spec Tryz.prog 55 [.pointer (some ⟨wb, 0, none⟩), strV q] [WrAt wb bs] (fun r L => r = .tuple #[] ∧ L = [WrAt wb (bs ++ putN q.length ++ q)]) := by
  have hW := Lib.hid fun (X : HProp) (a : Option Addr) (cap : Nat) (hb : RdB X a q) => wBytes_spec (cap := cap) hb wb bs hl hq
  clear hl hq
  refine SL.Spec.of_TK Go.Proofs.Tryz.func55 rfl rfl SL.call55 rfl ?_
  repeat' (first | (refine SL.TO.is ?_; first | (refine SL.W.quick ?_; first | refine SL.W.pass ?_ | refine SL.W.pv ?_ | refine SL.W.pv0 ?_) | (refine SL.TO.door (o := ⟨_, .call _, _, _, _, _⟩) ?_; first | (refine SL.TO.door (o := ⟨_, .call ⟨.value (.func 32), _, _⟩, _, _, _, _⟩) ?_; first | (refine SL.W.call (hW.out _ _ _ (RdB.ro hG)) ?_; rintro _ _ ⟨rfl, rfl⟩; try simp only [SL.aps]))) | (refine SL.TO.door (o := ⟨_, .convert _ _ _, _, _, _, _⟩) ?_; first | (refine SL.TO.strBytes (e := 5) (by kernel_rfl) (by kernel_rfl) (by kernel_rfl) (by rfl) (by rfl) (by rfl) ?_; intro b cap G hG hcap)) | refine SL.TO.nil ?_ | (refine SL.TO.nilD ?_; simp only [SL.setB]) | refine SL.W.pass ?_ | refine SL.W.pass0 ?_ | (refine SL.W.pure ?_; first | refine SL.W.pv ?_ | refine SL.W.pv0 ?_ | refine SL.W.lenMp ?_) | (refine SL.W.loud ?_; first | refine SL.W.load ?_ | refine SL.W.loadA ?_ | refine SL.W.store ?_ | refine SL.W.storeA ?_ | (refine SL.W.box ?_; intro b) | (refine SL.W.alloc ?_; intro b) | (refine SL.W.buildSlice ?_; intro b) | (refine SL.W.append ?_; intro a cap) | refine SL.W.bytesToStr ?_ | refine SL.W.toIntC ?_ | (refine SL.W.makeSlice ?_; intro b) | refine SL.W.lookupOk ?_ | refine SL.W.lookup ?_ | (refine SL.W.makeMap ?_; intro b) | refine SL.W.mapUpdate ?_ | (refine SL.W.mapEntry ?_; intro stamp) | refine SL.W.entryStore ?_ | (refine SL.W.range ?_; intro it) | refine SL.W.delete ?_)) | (refine SL.TK.is ?_; first | refine SL.TK.seq ?_ | refine SL.TK.region ?_ | refine SL.TK.regionD SL.mixed (by simp only [SL.falses] <;> rfl) ?_ | refine SL.TK.block ?_ | refine SL.TK.inBlock ?_ | refine SL.TK.skip ?_ | refine SL.TK.scope ?_ | refine SL.TK.inScope ?_ | refine SL.TK.label ?_ | (refine SL.TK.isExit ?_; refine SL.W.exit ?_) | refine SL.W.condT ?_ | refine SL.W.condF ?_) | (refine SL.TD.is ?_; first | (refine SL.W.dfin ?_; simp only [SL.aps]) | refine SL.W.dpass ?_ | refine SL.W.dpure ?_ | refine SL.W.dload ?_ | refine SL.W.dloadA ?_ | refine SL.W.dfrz ?_ | (refine SL.W.dthaw ?_; simp only [SL.aps])) | ((first | refine SL.W.guardP (fun h => ?_) (fun h => ?_) | refine SL.W.condP (fun h => ?_) (fun h => ?_) | refine SL.W.dguardP (fun h => ?_) (fun h => ?_)) <;> (fail_if_success (have : h = trivial := rfl)) <;> (fail_if_success (have : h = not_false := rfl)) <;> first | contradiction | (exfalso; omega) | (exfalso; revert h; simp; done) | skip) | ((first | refine SL.W.guardB (fun h => ?_) (fun h => ?_) | refine SL.W.dguardB (fun h => ?_) (fun h => ?_)) <;> (fail_if_success (have : h = (rfl : true = true) := rfl)) <;> (fail_if_success (have : h = (rfl : false = false) := rfl))) | refine SL.W.condB (fun h => ?_) (fun h => ?_) | (refine SL.TD.is ?_; first | refine SL.W.done ?_ | refine SL.W.dtwo ?_ ?_ | refine SL.W.dthree ?_ ?_ ?_))
  all_goals exact SL.TK.finD Tryz.func55 (SL.Res.none rfl) ⟨rfl, rfl⟩ (EntD.cons (by first | ((repeat (first | exact SL.Pick.head | apply SL.Pick.tail)); done) | fail) EntD.nil)
end SL
end
section
set_option linter.unusedVariables false
set_option linter.unusedSimpArgs false
set_option maxRecDepth 10000
namespace SL
open Go Go.Proofs Go.RowKit
attribute [local irreducible] SL.TK SL.TO SL.TD SL.PV SL.Pick SL.Frm SL.Ent SL.Sub SL.EvAll SL.seps SL.sep SL.Cut SL.PutAt SL.blk SL.EvP SL.Fill SL.Src SL.EntD SL.own SL.ex SL.fact SL.orig
theorem rLeft_spec (rb : Nat) (s : RdS) : Spec Tryz.prog 98 [.pointer (some ⟨rb, 0, none⟩)] [RdAt rb s] (fun r L => r = .int .i64 (if s.2 = 0 then s.1.length else 0 : Nat) ∧ L = [RdAt rb s]) := by
  have he := Lib.hid (rErr_spec rb s)
  refine SL.Spec.of_TK Go.Proofs.Tryz.func98 rfl rfl SL.call98 rfl ?_
  by_cases hs0 : s.2 = 0
  · repeat' (first | (refine SL.TO.is ?_; first | (refine SL.TO.door (o := ⟨_, .call ⟨.value (.func 93), _, _⟩, _, _, _, _⟩) ?_; first | ((refine SL.W.call (he.out) ?_; rintro _ _ ⟨rfl, rfl⟩; try simp only [SL.aps]); clear he)) | refine SL.TO.nil ?_ | (refine SL.TO.nilD ?_; simp only [SL.setB]) | refine SL.W.pass ?_ | refine SL.W.pass0 ?_ | (refine SL.W.pure ?_; first | refine SL.W.pv ?_ | refine SL.W.pv0 ?_) | (refine SL.W.loud ?_; first | refine SL.W.load ?_ | refine SL.W.loadA ?_ | refine SL.W.store ?_ | refine SL.W.storeA ?_ | (refine SL.W.box ?_; intro b) | (refine SL.W.alloc ?_; intro b) | (refine SL.W.buildSlice ?_; intro b) | (refine SL.W.append ?_; intro a cap) | refine SL.W.bytesToStr ?_ | refine SL.W.toIntC ?_ | (refine SL.W.makeSlice ?_; intro b))) | (refine SL.TK.is ?_; first | ((fail_if_success have := he); refine SL.TK.openRd (by first | ((repeat (first | exact SL.Pick.head | apply SL.Pick.tail)); done) | fail) (fun a cap g hok => ?_)) | refine SL.TK.seq ?_ | refine SL.TK.region ?_ | refine SL.TK.regionD SL.mixed (by simp only [SL.falses] <;> rfl) ?_ | refine SL.TK.block ?_ | refine SL.TK.inBlock ?_ | refine SL.TK.skip ?_ | refine SL.TK.scope ?_ | refine SL.TK.inScope ?_ | refine SL.TK.label ?_ | refine SL.W.exit ?_ | refine SL.W.condT ?_ | refine SL.W.condF ?_) | (refine SL.TD.is ?_; first | (refine SL.W.dfin ?_; simp only [SL.aps]) | refine SL.W.dpass ?_ | refine SL.W.dpure ?_ | refine SL.W.dload ?_ | refine SL.W.dloadA ?_ | refine SL.W.dfrz ?_ | (refine SL.W.dthaw ?_; simp only [SL.aps])) | ((first | refine SL.W.guardP (fun h => ?_) (fun h => ?_) | refine SL.W.condP (fun h => ?_) (fun h => ?_) | refine SL.W.dguardP (fun h => ?_) (fun h => ?_)) <;> (fail_if_success (have : h = trivial := rfl)) <;> (fail_if_success (have : h = not_false := rfl)) <;> first | contradiction | (exfalso; omega) | (exfalso; revert h; simp; done) | skip) | ((first | refine SL.W.guardB (fun h => ?_) (fun h => ?_) | refine SL.W.dguardB (fun h => ?_) (fun h => ?_)) <;> (fail_if_success (have : h = (rfl : true = true) := rfl)) <;> (fail_if_success (have : h = (rfl : false = false) := rfl))) | refine SL.W.condB (fun h => ?_) (fun h => ?_) | (refine SL.TD.is ?_; first | refine SL.W.done ?_ | refine SL.W.dtwo ?_ ?_ | refine SL.W.dthree ?_ ?_ ?_))
    rw [if_pos hs0]
    exact SL.TK.retD Tryz.func98 (SL.Res.one rfl (by rfl)) ⟨rfl, rfl⟩ (EntD.frm (by first | ((repeat (first | exact SL.Frm.nil | exact SL.Frm.refl | (apply SL.Frm.cons; repeat (first | exact SL.Pick.head | apply SL.Pick.tail)))); done) | fail) (rd_shut hok) EntD.nil)
  · repeat' (first | (refine SL.TO.is ?_; first | (refine SL.TO.door (o := ⟨_, .call ⟨.value (.func 93), _, _⟩, _, _, _, _⟩) ?_; first | (refine SL.W.call (he.out) ?_; rintro _ _ ⟨rfl, rfl⟩; try simp only [SL.aps])) | refine SL.TO.nil ?_ | (refine SL.TO.nilD ?_; simp only [SL.setB]) | refine SL.W.pass ?_ | refine SL.W.pass0 ?_ | (refine SL.W.pure ?_; first | refine SL.W.pv ?_ | refine SL.W.pv0 ?_) | (refine SL.W.loud ?_; first | refine SL.W.load ?_ | refine SL.W.loadA ?_ | refine SL.W.store ?_ | refine SL.W.storeA ?_ | (refine SL.W.box ?_; intro b) | (refine SL.W.alloc ?_; intro b) | (refine SL.W.buildSlice ?_; intro b) | (refine SL.W.append ?_; intro a cap) | refine SL.W.bytesToStr ?_ | refine SL.W.toIntC ?_ | (refine SL.W.makeSlice ?_; intro b))) | (refine SL.TK.is ?_; first | refine SL.TK.seq ?_ | refine SL.TK.region ?_ | refine SL.TK.regionD SL.mixed (by simp only [SL.falses] <;> rfl) ?_ | refine SL.TK.block ?_ | refine SL.TK.inBlock ?_ | refine SL.TK.skip ?_ | refine SL.TK.scope ?_ | refine SL.TK.inScope ?_ | refine SL.TK.label ?_ | refine SL.W.exit ?_ | refine SL.W.condT ?_ | refine SL.W.condF ?_) | (refine SL.TD.is ?_; first | (refine SL.W.dfin ?_; simp only [SL.aps]) | refine SL.W.dpass ?_ | refine SL.W.dpure ?_ | refine SL.W.dload ?_ | refine SL.W.dloadA ?_ | refine SL.W.dfrz ?_ | (refine SL.W.dthaw ?_; simp only [SL.aps])) | ((first | refine SL.W.guardP (fun h => ?_) (fun h => ?_) | refine SL.W.condP (fun h => ?_) (fun h => ?_) | refine SL.W.dguardP (fun h => ?_) (fun h => ?_)) <;> (fail_if_success (have : h = trivial := rfl)) <;> (fail_if_success (have : h = not_false := rfl)) <;> first | contradiction | (exfalso; omega) | (exfalso; revert h; simp; done) | skip) | ((first | refine SL.W.guardB (fun h => ?_) (fun h => ?_) | refine SL.W.dguardB (fun h => ?_) (fun h => ?_)) <;> (fail_if_success (have : h = (rfl : true = true) := rfl)) <;> (fail_if_success (have : h = (rfl : false = false) := rfl))) | refine SL.W.condB (fun h => ?_) (fun h => ?_) | (refine SL.TD.is ?_; first | refine SL.W.done ?_ | refine SL.W.dtwo ?_ ?_ | refine SL.W.dthree ?_ ?_ ?_))
    rw [if_neg hs0]
    exact SL.TK.retD Tryz.func98 (SL.Res.one rfl (by rfl)) ⟨rfl, rfl⟩ EntD.refl
theorem rEnd_spec (rb : Nat) (s : RdS) : Spec Tryz.prog 69 [.pointer (some ⟨rb, 0, none⟩)] [RdAt rb s] (fun r L => r = .int .i64 (rEnd s).2 ∧ L = [RdAt rb (rEnd s)]) := by
  have hl := Lib.hid (rLeft_spec rb s)
  have hf := Lib.hid (rFail_spec rb s 3)
  have he := Lib.hid (fun s => rErr_spec rb s)
  refine SL.Spec.of_TK Go.Proofs.Tryz.func69 rfl rfl SL.call69 rfl ?_
  by_cases h : s.2 = 0 ∧ 0 < s.1.length
  · have e : rFail 3 s = rEnd s := by unfold rFail rEnd; rw [if_pos h, if_pos h.1]
    rw [e] at hf
    have e1 : (if s.2 = 0 then s.1.length else 0 : Nat) = s.1.length := by rw [if_pos h.1]
    rw [e1] at hl
    have h2 := h.2
    clear e h e1
    repeat' (first | (refine SL.TO.is ?_; first | (refine SL.TO.door (o := ⟨_, .call ⟨.value (.func 98), _, _⟩, _, _, _, _⟩) ?_; first | (refine SL.W.call (hl.out) ?_; rintro _ _ ⟨rfl, rfl⟩; try simp only [SL.aps])) | (refine SL.TO.door (o := ⟨_, .call ⟨.value (.func 64), _, _⟩, _, _, _, _⟩) ?_; first | (refine SL.W.call (hf.out) ?_; rintro _ _ ⟨rfl, rfl⟩; try simp only [SL.aps])) | (refine SL.TO.door (o := ⟨_, .call ⟨.value (.func 93), _, _⟩, _, _, _, _⟩) ?_; first | (refine SL.W.call (he.out _) ?_; rintro _ _ ⟨rfl, rfl⟩; try simp only [SL.aps])) | refine SL.TO.nil ?_ | (refine SL.TO.nilD ?_; simp only [SL.setB]) | refine SL.W.pass ?_ | refine SL.W.pass0 ?_ | (refine SL.W.pure ?_; first | refine SL.W.pv ?_ | refine SL.W.pv0 ?_) | (refine SL.W.loud ?_; first | refine SL.W.load ?_ | refine SL.W.loadA ?_ | refine SL.W.store ?_ | refine SL.W.storeA ?_ | (refine SL.W.box ?_; intro b) | (refine SL.W.alloc ?_; intro b) | (refine SL.W.buildSlice ?_; intro b) | (refine SL.W.append ?_; intro a cap) | refine SL.W.bytesToStr ?_ | refine SL.W.toIntC ?_ | (refine SL.W.makeSlice ?_; intro b))) | (refine SL.TK.is ?_; first | refine SL.TK.seq ?_ | refine SL.TK.region ?_ | refine SL.TK.regionD SL.mixed (by simp only [SL.falses] <;> rfl) ?_ | refine SL.TK.block ?_ | refine SL.TK.inBlock ?_ | refine SL.TK.skip ?_ | refine SL.TK.scope ?_ | refine SL.TK.inScope ?_ | refine SL.TK.label ?_ | refine SL.W.exit ?_ | refine SL.W.condT ?_ | refine SL.W.condF ?_) | (refine SL.TD.is ?_; first | (refine SL.W.dfin ?_; simp only [SL.aps]) | refine SL.W.dpass ?_ | refine SL.W.dpure ?_ | refine SL.W.dload ?_ | refine SL.W.dloadA ?_ | refine SL.W.dfrz ?_ | (refine SL.W.dthaw ?_; simp only [SL.aps])) | ((first | refine SL.W.guardP (fun h => ?_) (fun h => ?_) | refine SL.W.condP (fun h => ?_) (fun h => ?_) | refine SL.W.dguardP (fun h => ?_) (fun h => ?_)) <;> (fail_if_success (have : h = trivial := rfl)) <;> (fail_if_success (have : h = not_false := rfl)) <;> first | contradiction | (exfalso; omega) | (exfalso; revert h; simp; done) | skip) | ((first | refine SL.W.guardB (fun h => ?_) (fun h => ?_) | refine SL.W.dguardB (fun h => ?_) (fun h => ?_)) <;> (fail_if_success (have : h = (rfl : true = true) := rfl)) <;> (fail_if_success (have : h = (rfl : false = false) := rfl))) | refine SL.W.condB (fun h => ?_) (fun h => ?_) | (refine SL.TD.is ?_; first | refine SL.W.done ?_ | refine SL.W.dtwo ?_ ?_ | refine SL.W.dthree ?_ ?_ ?_))
    exact SL.TK.retD Tryz.func69 (SL.Res.one rfl (by rfl)) ⟨rfl, rfl⟩ EntD.refl
  · have e : rEnd s = s := by unfold rEnd; rw [if_neg h]
    rw [e]
    have e1 : (if s.2 = 0 then s.1.length else 0 : Nat) = 0 := by split <;> omega
    rw [e1] at hl
    clear e h e1
    repeat' (first | (refine SL.TO.is ?_; first | (refine SL.TO.door (o := ⟨_, .call ⟨.value (.func 98), _, _⟩, _, _, _, _⟩) ?_; first | (refine SL.W.call (hl.out) ?_; rintro _ _ ⟨rfl, rfl⟩; try simp only [SL.aps])) | (refine SL.TO.door (o := ⟨_, .call ⟨.value (.func 93), _, _⟩, _, _, _, _⟩) ?_; first | (refine SL.W.call (he.out _) ?_; rintro _ _ ⟨rfl, rfl⟩; try simp only [SL.aps])) | refine SL.TO.nil ?_ | (refine SL.TO.nilD ?_; simp only [SL.setB]) | refine SL.W.pass ?_ | refine SL.W.pass0 ?_ | (refine SL.W.pure ?_; first | refine SL.W.pv ?_ | refine SL.W.pv0 ?_) | (refine SL.W.loud ?_; first | refine SL.W.load ?_ | refine SL.W.loadA ?_ | refine SL.W.store ?_ | refine SL.W.storeA ?_ | (refine SL.W.box ?_; intro b) | (refine SL.W.alloc ?_; intro b) | (refine SL.W.buildSlice ?_; intro b) | (refine SL.W.append ?_; intro a cap) | refine SL.W.bytesToStr ?_ | refine SL.W.toIntC ?_ | (refine SL.W.makeSlice ?_; intro b))) | (refine SL.TK.is ?_; first | refine SL.TK.seq ?_ | refine SL.TK.region ?_ | refine SL.TK.regionD SL.mixed (by simp only [SL.falses] <;> rfl) ?_ | refine SL.TK.block ?_ | refine SL.TK.inBlock ?_ | refine SL.TK.skip ?_ | refine SL.TK.scope ?_ | refine SL.TK.inScope ?_ | refine SL.TK.label ?_ | refine SL.W.exit ?_ | refine SL.W.condT ?_ | refine SL.W.condF ?_) | (refine SL.TD.is ?_; first | (refine SL.W.dfin ?_; simp only [SL.aps]) | refine SL.W.dpass ?_ | refine SL.W.dpure ?_ | refine SL.W.dload ?_ | refine SL.W.dloadA ?_ | refine SL.W.dfrz ?_ | (refine SL.W.dthaw ?_; simp only [SL.aps])) | ((first | refine SL.W.guardP (fun h => ?_) (fun h => ?_) | refine SL.W.condP (fun h => ?_) (fun h => ?_) | refine SL.W.dguardP (fun h => ?_) (fun h => ?_)) <;> (fail_if_success (have : h = trivial := rfl)) <;> (fail_if_success (have : h = not_false := rfl)) <;> first | contradiction | (exfalso; omega) | (exfalso; revert h; simp; done) | skip) | ((first | refine SL.W.guardB (fun h => ?_) (fun h => ?_) | refine SL.W.dguardB (fun h => ?_) (fun h => ?_)) <;> (fail_if_success (have : h = (rfl : true = true) := rfl)) <;> (fail_if_success (have : h = (rfl : false = false) := rfl))) | refine SL.W.condB (fun h => ?_) (fun h => ?_) | (refine SL.TD.is ?_; first | refine SL.W.done ?_ | refine SL.W.dtwo ?_ ?_ | refine SL.W.dthree ?_ ?_ ?_))
    exact SL.TK.retD Tryz.func69 (SL.Res.one rfl (by rfl)) ⟨rfl, rfl⟩ EntD.refl
theorem reads_err (rb : Nat) (s : RdS) (fv : Value) (h : ¬ s.2 = 0) : Spec Tryz.prog 90 [.pointer (some ⟨rb, 0, none⟩), fv] [RdAt rb s] (fun r L => r = .tuple #[] ∧ L = [RdAt rb s]) := by
  have he := Lib.hid (rErr_spec rb s)
  refine SL.Spec.of_TK Go.Proofs.Tryz.func90 rfl rfl SL.call90 rfl ?_
  repeat' (first | (refine SL.TO.is ?_; first | (refine SL.TO.door (o := ⟨_, .call ⟨.value (.func 93), _, _⟩, _, _, _, _⟩) ?_; first | (refine SL.W.call (he.out) ?_; rintro _ _ ⟨rfl, rfl⟩; try simp only [SL.aps])) | refine SL.TO.nil ?_ | (refine SL.TO.nilD ?_; simp only [SL.setB]) | refine SL.W.pass ?_ | refine SL.W.pass0 ?_ | (refine SL.W.pure ?_; first | refine SL.W.pv ?_ | refine SL.W.pv0 ?_) | (refine SL.W.loud ?_; first | refine SL.W.load ?_ | refine SL.W.loadA ?_ | refine SL.W.store ?_ | refine SL.W.storeA ?_ | (refine SL.W.box ?_; intro b) | (refine SL.W.alloc ?_; intro b) | (refine SL.W.buildSlice ?_; intro b) | (refine SL.W.append ?_; intro a cap) | refine SL.W.bytesToStr ?_ | refine SL.W.toIntC ?_ | (refine SL.W.makeSlice ?_; intro b))) | (refine SL.TK.is ?_; first | refine SL.TK.seq ?_ | refine SL.TK.region ?_ | refine SL.TK.regionD SL.mixed (by simp only [SL.falses] <;> rfl) ?_ | refine SL.TK.block ?_ | refine SL.TK.inBlock ?_ | refine SL.TK.skip ?_ | refine SL.TK.scope ?_ | refine SL.TK.inScope ?_ | refine SL.TK.label ?_ | refine SL.W.exit ?_ | refine SL.W.condT ?_ | refine SL.W.condF ?_) | (refine SL.TD.is ?_; first | (refine SL.W.dfin ?_; simp only [SL.aps]) | refine SL.W.dpass ?_ | refine SL.W.dpure ?_ | refine SL.W.dload ?_ | refine SL.W.dloadA ?_ | refine SL.W.dfrz ?_ | (refine SL.W.dthaw ?_; simp only [SL.aps])) | ((first | refine SL.W.guardP (fun h => ?_) (fun h => ?_) | refine SL.W.condP (fun h => ?_) (fun h => ?_) | refine SL.W.dguardP (fun h => ?_) (fun h => ?_)) <;> (fail_if_success (have : h = trivial := rfl)) <;> (fail_if_success (have : h = not_false := rfl)) <;> first | contradiction | (exfalso; omega) | (exfalso; revert h; simp; done) | skip) | ((first | refine SL.W.guardB (fun h => ?_) (fun h => ?_) | refine SL.W.dguardB (fun h => ?_) (fun h => ?_)) <;> (fail_if_success (have : h = (rfl : true = true) := rfl)) <;> (fail_if_success (have : h = (rfl : false = false) := rfl))) | refine SL.W.condB (fun h => ?_) (fun h => ?_) | (refine SL.TD.is ?_; first | refine SL.W.done ?_ | refine SL.W.dtwo ?_ ?_ | refine SL.W.dthree ?_ ?_ ?_))
  exact SL.TK.retD Tryz.func90 (SL.Res.none rfl) ⟨rfl, rfl⟩ EntD.refl
theorem reads_ok {α : Type} (rb : Nat) (bs : List UInt8) (f : Nat) (caps : List Value) (A : HProp) (B : α → HProp) (size : Nat) (e : Int) (hs : e = 0 → size ≤ bs.length)
    (hdo : Spec Tryz.prog f caps [RdAt rb (bs, 0), A] (fun r L => r = .tuple #[.int .i64 size, .int .i64 e] ∧ ∃ x, L = [RdAt rb (bs, 0), B x])) :
    Spec Tryz.prog 90 [.pointer (some ⟨rb, 0, none⟩), .func (.func f) #[] caps.toArray] [RdAt rb (bs, 0), A] (fun r L => r = .tuple #[] ∧ ∃ x, L = [RdAt rb (if e = 0 then (bs.drop size, 0) else (bs, e)), B x]) := by
  have he := Lib.hid (rErr_spec rb (bs, 0))
  have hd := Lib.hid hdo
  have hf := Lib.hid (rFail_spec rb (bs, 0) e)
  clear hdo
  refine SL.Spec.of_TK Go.Proofs.Tryz.func90 rfl rfl SL.call90 rfl ?_
  by_cases he0 : e = 0
  · subst he0
    have hs := hs rfl
    have e1 : rFail 0 ((bs, 0) : RdS) = (bs, 0) := rfl
    rw [e1] at hf
    repeat' (first | (refine SL.TO.is ?_; first | (refine SL.TO.door (o := ⟨_, .call ⟨.value (.func 93), _, _⟩, _, _, _, _⟩) ?_; first | (refine SL.W.call (he.out) ?_; rintro _ _ ⟨rfl, rfl⟩; try simp only [SL.aps])) | (refine SL.TO.door (o := ⟨_, .call ⟨.value (.tmp _), _, _⟩, _, _, _, _⟩) ?_; first | (refine SL.TO.callVal (cap := caps) hd.out (by rfl) (by rfl) rfl (by first | ((repeat (first | exact SL.EvAll.nil | (apply SL.EvAll.cons; rfl))); done) | fail) (by rfl) (by first | ((repeat (first | exact SL.Frm.nil | exact SL.Frm.refl | (apply SL.Frm.cons; repeat (first | exact SL.Pick.head | apply SL.Pick.tail)))); done) | fail) ?_; rintro _ _ ⟨rfl, x, rfl⟩; try simp only [SL.aps])) | (refine SL.TO.door (o := ⟨_, .call ⟨.value (.func 64), _, _⟩, _, _, _, _⟩) ?_; first | ((refine SL.W.call (hf.out) ?_; rintro _ _ ⟨rfl, rfl⟩; try simp only [SL.aps]); clear hf)) | refine SL.TO.nil ?_ | (refine SL.TO.nilD ?_; simp only [SL.setB]) | refine SL.W.pass ?_ | refine SL.W.pass0 ?_ | (refine SL.W.pure ?_; first | refine SL.W.pv ?_ | refine SL.W.pv0 ?_) | (refine SL.W.loud ?_; first | refine SL.W.load ?_ | refine SL.W.loadA ?_ | refine SL.W.store ?_ | refine SL.W.storeA ?_ | (refine SL.W.box ?_; intro b) | (refine SL.W.alloc ?_; intro b) | (refine SL.W.buildSlice ?_; intro b) | (refine SL.W.append ?_; intro a cap) | refine SL.W.bytesToStr ?_ | refine SL.W.toIntC ?_ | (refine SL.W.makeSlice ?_; intro b))) | (refine SL.TK.is ?_; first | ((fail_if_success have := hf); refine SL.TK.openRd (by first | ((repeat (first | exact SL.Pick.head | apply SL.Pick.tail)); done) | fail) (fun a cap g hok => ?_)) | refine SL.TK.seq ?_ | refine SL.TK.region ?_ | refine SL.TK.regionD SL.mixed (by simp only [SL.falses] <;> rfl) ?_ | refine SL.TK.block ?_ | refine SL.TK.inBlock ?_ | refine SL.TK.skip ?_ | refine SL.TK.scope ?_ | refine SL.TK.inScope ?_ | refine SL.TK.label ?_ | refine SL.W.exit ?_ | refine SL.W.condT ?_ | refine SL.W.condF ?_) | (refine SL.TD.is ?_; first | (refine SL.W.dfin ?_; simp only [SL.aps]) | refine SL.W.dpass ?_ | refine SL.W.dpure ?_ | refine SL.W.dload ?_ | refine SL.W.dloadA ?_ | refine SL.W.dfrz ?_ | (refine SL.W.dthaw ?_; simp only [SL.aps])) | ((first | refine SL.W.guardP (fun h => ?_) (fun h => ?_) | refine SL.W.condP (fun h => ?_) (fun h => ?_) | refine SL.W.dguardP (fun h => ?_) (fun h => ?_)) <;> (fail_if_success (have : h = trivial := rfl)) <;> (fail_if_success (have : h = not_false := rfl)) <;> first | contradiction | (exfalso; omega) | (exfalso; revert h; simp; done) | skip) | ((first | refine SL.W.guardB (fun h => ?_) (fun h => ?_) | refine SL.W.dguardB (fun h => ?_) (fun h => ?_)) <;> (fail_if_success (have : h = (rfl : true = true) := rfl)) <;> (fail_if_success (have : h = (rfl : false = false) := rfl))) | refine SL.W.condB (fun h => ?_) (fun h => ?_) | (refine SL.TD.is ?_; first | refine SL.W.done ?_ | refine SL.W.dtwo ?_ ?_ | refine SL.W.dthree ?_ ?_ ?_))
    have hsl : sl a size bs.length cap 1 = .slice (if cap = size then a else a.map (·.add (size * 1))) (bs.drop size).length (cap - size) := by unfold sl; simp
    rw [hsl]
    exact SL.TK.finD Tryz.func90 (SL.Res.none rfl) ⟨rfl, x, rfl⟩ (EntD.frm (by first | ((repeat (first | exact SL.Frm.nil | exact SL.Frm.refl | (apply SL.Frm.cons; repeat (first | exact SL.Pick.head | apply SL.Pick.tail)))); done) | fail) (rd_shut (s := (bs.drop size, 0)) (hok.drop hs)) (EntD.cons (by first | ((repeat (first | exact SL.Pick.head | apply SL.Pick.tail)); done) | fail) EntD.nil))
  · repeat' (first | (refine SL.TO.is ?_; first | (refine SL.TO.door (o := ⟨_, .call ⟨.value (.func 93), _, _⟩, _, _, _, _⟩) ?_; first | (refine SL.W.call (he.out) ?_; rintro _ _ ⟨rfl, rfl⟩; try simp only [SL.aps])) | (refine SL.TO.door (o := ⟨_, .call ⟨.value (.tmp _), _, _⟩, _, _, _, _⟩) ?_; first | (refine SL.TO.callVal (cap := caps) hd.out (by rfl) (by rfl) rfl (by first | ((repeat (first | exact SL.EvAll.nil | (apply SL.EvAll.cons; rfl))); done) | fail) (by rfl) (by first | ((repeat (first | exact SL.Frm.nil | exact SL.Frm.refl | (apply SL.Frm.cons; repeat (first | exact SL.Pick.head | apply SL.Pick.tail)))); done) | fail) ?_; rintro _ _ ⟨rfl, x, rfl⟩; try simp only [SL.aps])) | (refine SL.TO.door (o := ⟨_, .call ⟨.value (.func 64), _, _⟩, _, _, _, _⟩) ?_; first | (refine SL.W.call (hf.out) ?_; rintro _ _ ⟨rfl, rfl⟩; try simp only [SL.aps])) | refine SL.TO.nil ?_ | (refine SL.TO.nilD ?_; simp only [SL.setB]) | refine SL.W.pass ?_ | refine SL.W.pass0 ?_ | (refine SL.W.pure ?_; first | refine SL.W.pv ?_ | refine SL.W.pv0 ?_) | (refine SL.W.loud ?_; first | refine SL.W.load ?_ | refine SL.W.loadA ?_ | refine SL.W.store ?_ | refine SL.W.storeA ?_ | (refine SL.W.box ?_; intro b) | (refine SL.W.alloc ?_; intro b) | (refine SL.W.buildSlice ?_; intro b) | (refine SL.W.append ?_; intro a cap) | refine SL.W.bytesToStr ?_ | refine SL.W.toIntC ?_ | (refine SL.W.makeSlice ?_; intro b))) | (refine SL.TK.is ?_; first | refine SL.TK.seq ?_ | refine SL.TK.region ?_ | refine SL.TK.regionD SL.mixed (by simp only [SL.falses] <;> rfl) ?_ | refine SL.TK.block ?_ | refine SL.TK.inBlock ?_ | refine SL.TK.skip ?_ | refine SL.TK.scope ?_ | refine SL.TK.inScope ?_ | refine SL.TK.label ?_ | refine SL.W.exit ?_ | refine SL.W.condT ?_ | refine SL.W.condF ?_) | (refine SL.TD.is ?_; first | (refine SL.W.dfin ?_; simp only [SL.aps]) | refine SL.W.dpass ?_ | refine SL.W.dpure ?_ | refine SL.W.dload ?_ | refine SL.W.dloadA ?_ | refine SL.W.dfrz ?_ | (refine SL.W.dthaw ?_; simp only [SL.aps])) | ((first | refine SL.W.guardP (fun h => ?_) (fun h => ?_) | refine SL.W.condP (fun h => ?_) (fun h => ?_) | refine SL.W.dguardP (fun h => ?_) (fun h => ?_)) <;> (fail_if_success (have : h = trivial := rfl)) <;> (fail_if_success (have : h = not_false := rfl)) <;> first | contradiction | (exfalso; omega) | (exfalso; revert h; simp; done) | skip) | ((first | refine SL.W.guardB (fun h => ?_) (fun h => ?_) | refine SL.W.dguardB (fun h => ?_) (fun h => ?_)) <;> (fail_if_success (have : h = (rfl : true = true) := rfl)) <;> (fail_if_success (have : h = (rfl : false = false) := rfl))) | refine SL.W.condB (fun h => ?_) (fun h => ?_) | (refine SL.TD.is ?_; first | refine SL.W.done ?_ | refine SL.W.dtwo ?_ ?_ | refine SL.W.dthree ?_ ?_ ?_))
    rw [if_neg he0]
    exact SL.TK.finD Tryz.func90 (SL.Res.none rfl) ⟨rfl, x, rfl⟩ (EntD.cons (by first | ((repeat (first | exact SL.Pick.head | apply SL.Pick.tail)); done) | fail) (EntD.cons (by first | ((repeat (first | exact SL.Pick.head | apply SL.Pick.tail)); done) | fail) EntD.nil))
theorem num1_spec (rb p q : Nat) (bs : List UInt8) (v : Value) : Spec Tryz.prog 91 [.pointer (some ⟨p, 0, none⟩), .pointer (some ⟨q, 0, none⟩)]
    [RdAt rb (bs, 0), seps [SL.blk p 127 [.pointer (some ⟨rb, 0, none⟩)], SL.blk q 31 [v]]]
    (fun r L => r = .tuple #[.int .i64 (getN bs).2.1, .int .i64 (getN bs).2.2] ∧ ∃ x : Unit, L = [RdAt rb (bs, 0), (fun _ => seps [SL.blk p 127 [.pointer (some ⟨rb, 0, none⟩)], SL.blk q 31 [.int .u64 (getN bs).1]]) x]) := by
  refine SL.Spec.of_TK Go.Proofs.Tryz.func91 rfl rfl SL.call91 rfl ?_
  refine SL.TK.sepsC (Pick.tail Pick.head) ?_
  simp only [List.cons_append, List.nil_append]
  refine SL.TK.openRd (by first | ((repeat (first | exact SL.Pick.head | apply SL.Pick.tail)); done) | fail) (fun a cap g hok => ?_)
  have hg := Lib.hid (get_spec (X := RO g) (a := a) (cap := cap) (bs := bs) (RdB.ro hok.rd) (by have := hok.bd; simp only at this; omega) hok.le)
  obtain ⟨G, hG⟩ : ∃ G, G = getN bs := ⟨_, rfl⟩
  rw [← hG] at hg ⊢
  repeat' (first | (refine SL.TO.is ?_; first | (refine SL.TO.door (o := ⟨_, .call ⟨.value (.func 92), _, _⟩, _, _, _, _⟩) ?_; first | (refine SL.W.call (hg.out) ?_; rintro _ _ ⟨rfl, rfl⟩; try simp only [SL.aps])) | refine SL.TO.nil ?_ | (refine SL.TO.nilD ?_; simp only [SL.setB]) | refine SL.W.pass ?_ | refine SL.W.pass0 ?_ | (refine SL.W.pure ?_; first | refine SL.W.pv ?_ | refine SL.W.pv0 ?_) | (refine SL.W.loud ?_; first | refine SL.W.load ?_ | refine SL.W.loadA ?_ | refine SL.W.store ?_ | refine SL.W.storeA ?_ | (refine SL.W.box ?_; intro b) | (refine SL.W.alloc ?_; intro b) | (refine SL.W.buildSlice ?_; intro b) | (refine SL.W.append ?_; intro a cap) | refine SL.W.bytesToStr ?_ | refine SL.W.toIntC ?_ | (refine SL.W.makeSlice ?_; intro b))) | (refine SL.TK.is ?_; first | refine SL.TK.seq ?_ | refine SL.TK.region ?_ | refine SL.TK.regionD SL.mixed (by simp only [SL.falses] <;> rfl) ?_ | refine SL.TK.block ?_ | refine SL.TK.inBlock ?_ | refine SL.TK.skip ?_ | refine SL.TK.scope ?_ | refine SL.TK.inScope ?_ | refine SL.TK.label ?_ | refine SL.W.exit ?_ | refine SL.W.condT ?_ | refine SL.W.condF ?_) | (refine SL.TD.is ?_; first | (refine SL.W.dfin ?_; simp only [SL.aps]) | refine SL.W.dpass ?_ | refine SL.W.dpure ?_ | refine SL.W.dload ?_ | refine SL.W.dloadA ?_ | refine SL.W.dfrz ?_ | (refine SL.W.dthaw ?_; simp only [SL.aps])) | ((first | refine SL.W.guardP (fun h => ?_) (fun h => ?_) | refine SL.W.condP (fun h => ?_) (fun h => ?_) | refine SL.W.dguardP (fun h => ?_) (fun h => ?_)) <;> (fail_if_success (have : h = trivial := rfl)) <;> (fail_if_success (have : h = not_false := rfl)) <;> first | contradiction | (exfalso; omega) | (exfalso; revert h; simp; done) | skip) | ((first | refine SL.W.guardB (fun h => ?_) (fun h => ?_) | refine SL.W.dguardB (fun h => ?_) (fun h => ?_)) <;> (fail_if_success (have : h = (rfl : true = true) := rfl)) <;> (fail_if_success (have : h = (rfl : false = false) := rfl))) | refine SL.W.condB (fun h => ?_) (fun h => ?_) | (refine SL.TD.is ?_; first | refine SL.W.done ?_ | refine SL.W.dtwo ?_ ?_ | refine SL.W.dthree ?_ ?_ ?_))
  exact SL.TK.retD Tryz.func91 (SL.Res.two rfl (by rfl) (by rfl)) ⟨rfl, (), rfl⟩ (EntD.frm (by first | ((repeat (first | exact SL.Frm.nil | exact SL.Frm.refl | (apply SL.Frm.cons; repeat (first | exact SL.Pick.head | apply SL.Pick.tail)))); done) | fail) (rd_shut (s := (bs, 0)) hok) (EntD.frm (by first | ((repeat (first | exact SL.Frm.nil | exact SL.Frm.refl | (apply SL.Frm.cons; repeat (first | exact SL.Pick.head | apply SL.Pick.tail)))); done) | fail) (fun h x => x) EntD.nil))
theorem rNum_spec (rb : Nat) (s : RdS) : Spec Tryz.prog 63 [.pointer (some ⟨rb, 0, none⟩)] [RdAt rb s] (fun r L => r = .int .u64 (rNum s).1 ∧ L = [RdAt rb (rNum s).2]) := by
  by_cases hs0 : s.2 = 0
  · obtain ⟨bs, e⟩ := s
    simp only at hs0
    subst hs0
    have hr := Lib.hid fun (p q : Nat) => reads_ok rb bs 91 [.pointer (some ⟨p, 0, none⟩), .pointer (some ⟨q, 0, none⟩)] _ _ (getN bs).2.1 (getN bs).2.2 (fun h => (getN_len (n := (getN bs).1) (s := (getN bs).2.1) (by rw [← h])).2) (num1_spec rb p q bs (.int .u64 0))
    have hres : rNum (bs, 0) = ((getN bs).1, (if (getN bs).2.2 = 0 then (bs.drop (getN bs).2.1, 0) else (bs, (getN bs).2.2))) := by
      unfold rNum
      rw [if_pos rfl]
      split
      · rfl
      · rename_i h
        have := getN_err (b := bs) (n := (getN bs).1) (s := (getN bs).2.1) (e := (getN bs).2.2) rfl
        have h1 : (getN bs).1 = 0 := by simp only at h; omega
        rw [h1]
    rw [hres]
    obtain ⟨G, hG⟩ : ∃ G, G = getN bs := ⟨_, rfl⟩
    rw [← hG] at hr ⊢
    clear hres hG
    refine SL.Spec.of_TK Go.Proofs.Tryz.func63 rfl rfl SL.call63 rfl ?_
    repeat' (first | (refine SL.TO.is ?_; first | (refine SL.TO.door (o := ⟨_, .call ⟨.value (.func 90), _, _⟩, _, _, _, _⟩) ?_; first | (refine SL.TO.entD (L' := [RdAt rb (bs, 0), seps [SL.blk _ 127 [.pointer (some ⟨rb, 0, none⟩)], SL.blk _ 31 [.int .u64 0]]]) (EntD.cons (by first | ((repeat (first | exact SL.Pick.head | apply SL.Pick.tail)); done) | fail) (EntD.frm (by first | ((repeat (first | exact SL.Frm.nil | exact SL.Frm.refl | (apply SL.Frm.cons; repeat (first | exact SL.Pick.head | apply SL.Pick.tail)))); done) | fail) (fun h x => x) EntD.nil)) ?_; (refine SL.W.call (hr.out _ _) ?_; rintro _ _ ⟨rfl, ⟨⟩, rfl⟩; try simp only [SL.aps]); refine SL.TO.sepsC (Pick.tail Pick.head) ?_; simp only [List.cons_append, List.nil_append])) | refine SL.TO.nil ?_ | (refine SL.TO.nilD ?_; simp only [SL.setB]) | refine SL.W.pass ?_ | refine SL.W.pass0 ?_ | (refine SL.W.pure ?_; first | refine SL.W.pv ?_ | refine SL.W.pv0 ?_) | (refine SL.W.loud ?_; first | refine SL.W.load ?_ | refine SL.W.loadA ?_ | refine SL.W.store ?_ | refine SL.W.storeA ?_ | (refine SL.W.box ?_; intro b) | (refine SL.W.alloc ?_; intro b) | (refine SL.W.buildSlice ?_; intro b) | (refine SL.W.append ?_; intro a cap) | refine SL.W.bytesToStr ?_ | refine SL.W.toIntC ?_ | (refine SL.W.makeSlice ?_; intro b))) | (refine SL.TK.is ?_; first | refine SL.TK.seq ?_ | refine SL.TK.region ?_ | refine SL.TK.regionD SL.mixed (by simp only [SL.falses] <;> rfl) ?_ | refine SL.TK.block ?_ | refine SL.TK.inBlock ?_ | refine SL.TK.skip ?_ | refine SL.TK.scope ?_ | refine SL.TK.inScope ?_ | refine SL.TK.label ?_ | refine SL.W.exit ?_ | refine SL.W.condT ?_ | refine SL.W.condF ?_) | (refine SL.TD.is ?_; first | (refine SL.W.dfin ?_; simp only [SL.aps]) | refine SL.W.dpass ?_ | refine SL.W.dpure ?_ | refine SL.W.dload ?_ | refine SL.W.dloadA ?_ | refine SL.W.dfrz ?_ | (refine SL.W.dthaw ?_; simp only [SL.aps])) | ((first | refine SL.W.guardP (fun h => ?_) (fun h => ?_) | refine SL.W.condP (fun h => ?_) (fun h => ?_) | refine SL.W.dguardP (fun h => ?_) (fun h => ?_)) <;> (fail_if_success (have : h = trivial := rfl)) <;> (fail_if_success (have : h = not_false := rfl)) <;> first | contradiction | (exfalso; omega) | (exfalso; revert h; simp; done) | skip) | ((first | refine SL.W.guardB (fun h => ?_) (fun h => ?_) | refine SL.W.dguardB (fun h => ?_) (fun h => ?_)) <;> (fail_if_success (have : h = (rfl : true = true) := rfl)) <;> (fail_if_success (have : h = (rfl : false = false) := rfl))) | refine SL.W.condB (fun h => ?_) (fun h => ?_) | (refine SL.TD.is ?_; first | refine SL.W.done ?_ | refine SL.W.dtwo ?_ ?_ | refine SL.W.dthree ?_ ?_ ?_))
    exact SL.TK.retD Tryz.func63 (SL.Res.cellS rfl (by rfl) (by first | ((repeat (first | exact SL.Pick.head | apply SL.Pick.tail)); done) | fail) (by rfl)) ⟨rfl, rfl⟩ (EntD.cons (by first | ((repeat (first | exact SL.Pick.head | apply SL.Pick.tail)); done) | fail) EntD.nil)
  · have hr := Lib.hid fun (fv : Value) => reads_err rb s fv hs0
    have hres : rNum s = (0, s) := by unfold rNum; rw [if_neg hs0]
    rw [hres]
    refine SL.Spec.of_TK Go.Proofs.Tryz.func63 rfl rfl SL.call63 rfl ?_
    repeat' (first | (refine SL.TO.is ?_; first | (refine SL.TO.door (o := ⟨_, .call ⟨.value (.func 90), _, _⟩, _, _, _, _⟩) ?_; first | (refine SL.W.call (hr.out _) ?_; rintro _ _ ⟨rfl, rfl⟩; try simp only [SL.aps])) | refine SL.TO.nil ?_ | (refine SL.TO.nilD ?_; simp only [SL.setB]) | refine SL.W.pass ?_ | refine SL.W.pass0 ?_ | (refine SL.W.pure ?_; first | refine SL.W.pv ?_ | refine SL.W.pv0 ?_) | (refine SL.W.loud ?_; first | refine SL.W.load ?_ | refine SL.W.loadA ?_ | refine SL.W.store ?_ | refine SL.W.storeA ?_ | (refine SL.W.box ?_; intro b) | (refine SL.W.alloc ?_; intro b) | (refine SL.W.buildSlice ?_; intro b) | (refine SL.W.append ?_; intro a cap) | refine SL.W.bytesToStr ?_ | refine SL.W.toIntC ?_ | (refine SL.W.makeSlice ?_; intro b))) | (refine SL.TK.is ?_; first | refine SL.TK.seq ?_ | refine SL.TK.region ?_ | refine SL.TK.regionD SL.mixed (by simp only [SL.falses] <;> rfl) ?_ | refine SL.TK.block ?_ | refine SL.TK.inBlock ?_ | refine SL.TK.skip ?_ | refine SL.TK.scope ?_ | refine SL.TK.inScope ?_ | refine SL.TK.label ?_ | refine SL.W.exit ?_ | refine SL.W.condT ?_ | refine SL.W.condF ?_) | (refine SL.TD.is ?_; first | (refine SL.W.dfin ?_; simp only [SL.aps]) | refine SL.W.dpass ?_ | refine SL.W.dpure ?_ | refine SL.W.dload ?_ | refine SL.W.dloadA ?_ | refine SL.W.dfrz ?_ | (refine SL.W.dthaw ?_; simp only [SL.aps])) | ((first | refine SL.W.guardP (fun h => ?_) (fun h => ?_) | refine SL.W.condP (fun h => ?_) (fun h => ?_) | refine SL.W.dguardP (fun h => ?_) (fun h => ?_)) <;> (fail_if_success (have : h = trivial := rfl)) <;> (fail_if_success (have : h = not_false := rfl)) <;> first | contradiction | (exfalso; omega) | (exfalso; revert h; simp; done) | skip) | ((first | refine SL.W.guardB (fun h => ?_) (fun h => ?_) | refine SL.W.dguardB (fun h => ?_) (fun h => ?_)) <;> (fail_if_success (have : h = (rfl : true = true) := rfl)) <;> (fail_if_success (have : h = (rfl : false = false) := rfl))) | refine SL.W.condB (fun h => ?_) (fun h => ?_) | (refine SL.TD.is ?_; first | refine SL.W.done ?_ | refine SL.W.dtwo ?_ ?_ | refine SL.W.dthree ?_ ?_ ?_))
    exact SL.TK.retD Tryz.func63 (SL.Res.cellS rfl (by rfl) (by first | ((repeat (first | exact SL.Pick.head | apply SL.Pick.tail)); done) | fail) (by rfl)) ⟨rfl, rfl⟩ (EntD.cons (by first | ((repeat (first | exact SL.Pick.head | apply SL.Pick.tail)); done) | fail) EntD.nil)
theorem rUpto_spec (rb : Nat) (s : RdS) (most : Nat) : Spec Tryz.prog 65 [.pointer (some ⟨rb, 0, none⟩), .int .u64 most] [RdAt rb s] (fun r L => r = .int .u64 (rUpto most s).1 ∧ L = [RdAt rb (rUpto most s).2]) := by
  have hn := Lib.hid (rNum_spec rb s)
  have hf := Lib.hid fun s => rFail_spec rb s 3
  unfold rUpto
  obtain ⟨N, hN⟩ : ∃ N, N = rNum s := ⟨_, rfl⟩
  rw [← hN] at hn ⊢
  refine SL.Spec.of_TK Go.Proofs.Tryz.func65 rfl rfl SL.call65 rfl ?_
  repeat' (first | (refine SL.TO.is ?_; first | (refine SL.TO.door (o := ⟨_, .call ⟨.value (.func 63), _, _⟩, _, _, _, _⟩) ?_; first | (refine SL.W.call (hn.out) ?_; rintro _ _ ⟨rfl, rfl⟩; try simp only [SL.aps])) | (refine SL.TO.door (o := ⟨_, .call ⟨.value (.func 64), _, _⟩, _, _, _, _⟩) ?_; first | (refine SL.W.call (hf.out _) ?_; rintro _ _ ⟨rfl, rfl⟩; try simp only [SL.aps])) | refine SL.TO.nil ?_ | (refine SL.TO.nilD ?_; simp only [SL.setB]) | refine SL.W.pass ?_ | refine SL.W.pass0 ?_ | (refine SL.W.pure ?_; first | refine SL.W.pv ?_ | refine SL.W.pv0 ?_) | (refine SL.W.loud ?_; first | refine SL.W.load ?_ | refine SL.W.loadA ?_ | refine SL.W.store ?_ | refine SL.W.storeA ?_ | (refine SL.W.box ?_; intro b) | (refine SL.W.alloc ?_; intro b) | (refine SL.W.buildSlice ?_; intro b) | (refine SL.W.append ?_; intro a cap) | refine SL.W.bytesToStr ?_ | refine SL.W.toIntC ?_ | (refine SL.W.makeSlice ?_; intro b))) | (refine SL.TK.is ?_; first | refine SL.TK.seq ?_ | refine SL.TK.region ?_ | refine SL.TK.regionD SL.mixed (by simp only [SL.falses] <;> rfl) ?_ | refine SL.TK.block ?_ | refine SL.TK.inBlock ?_ | refine SL.TK.skip ?_ | refine SL.TK.scope ?_ | refine SL.TK.inScope ?_ | refine SL.TK.label ?_ | refine SL.W.exit ?_ | refine SL.W.condT ?_ | refine SL.W.condF ?_) | (refine SL.TD.is ?_; first | (refine SL.W.dfin ?_; simp only [SL.aps]) | refine SL.W.dpass ?_ | refine SL.W.dpure ?_ | refine SL.W.dload ?_ | refine SL.W.dloadA ?_ | refine SL.W.dfrz ?_ | (refine SL.W.dthaw ?_; simp only [SL.aps])) | ((first | refine SL.W.guardP (fun h => ?_) (fun h => ?_) | refine SL.W.condP (fun h => ?_) (fun h => ?_) | refine SL.W.dguardP (fun h => ?_) (fun h => ?_)) <;> (fail_if_success (have : h = trivial := rfl)) <;> (fail_if_success (have : h = not_false := rfl)) <;> first | contradiction | (exfalso; omega) | (exfalso; revert h; simp; done) | skip) | ((first | refine SL.W.guardB (fun h => ?_) (fun h => ?_) | refine SL.W.dguardB (fun h => ?_) (fun h => ?_)) <;> (fail_if_success (have : h = (rfl : true = true) := rfl)) <;> (fail_if_success (have : h = (rfl : false = false) := rfl))) | refine SL.W.condB (fun h => ?_) (fun h => ?_) | (refine SL.TD.is ?_; first | refine SL.W.done ?_ | refine SL.W.dtwo ?_ ?_ | refine SL.W.dthree ?_ ?_ ?_))
  · rw [if_pos (by omega)]
    exact SL.TK.retD Tryz.func65 (SL.Res.one rfl (by rfl)) ⟨rfl, rfl⟩ (EntD.cons (by first | ((repeat (first | exact SL.Pick.head | apply SL.Pick.tail)); done) | fail) EntD.nil)
  · rw [if_neg (by omega)]
    exact SL.TK.retD Tryz.func65 (SL.Res.one rfl (by rfl)) ⟨rfl, rfl⟩ (EntD.cons (by first | ((repeat (first | exact SL.Pick.head | apply SL.Pick.tail)); done) | fail) EntD.nil)
theorem rUpto_le (most : Nat) (s : RdS) : (rUpto most s).1 ≤ most := by
  unfold rUpto
  split
  · simp
  · omega
theorem rCount_spec (rb : Nat) (s : RdS) (most : Nat) (hm : most ≤ 1000000000) : Spec Tryz.prog 128 [.pointer (some ⟨rb, 0, none⟩), .int .i64 most] [RdAt rb s] (fun r L => r = .int .i64 (rUpto most s).1 ∧ L = [RdAt rb (rUpto most s).2]) := by
  have hu := Lib.hid (rUpto_spec rb s most)
  have hle := rUpto_le most s
  have hmax : max (most : Int) 0 = most := by omega
  obtain ⟨N, hN⟩ : ∃ N, N = rUpto most s := ⟨_, rfl⟩
  rw [← hN] at hu hle ⊢
  refine SL.Spec.of_TK Go.Proofs.Tryz.func128 rfl rfl SL.call128 rfl ?_
  repeat' (first | (refine SL.TO.is ?_; first | (refine SL.TO.door (o := ⟨_, .call ⟨.value (.func 65), _, _⟩, _, _, _, _⟩) ?_; first | (refine SL.W.call (hu.out) ?_; rintro _ _ ⟨rfl, rfl⟩; try simp only [SL.aps])) | refine SL.TO.nil ?_ | (refine SL.TO.nilD ?_; simp only [SL.setB]) | refine SL.W.pass ?_ | refine SL.W.pass0 ?_ | (refine SL.W.pure ?_; first | (refine SL.TO.door (o := ⟨_, .call ⟨.builtin .max, _, _⟩, _, _, _, _⟩) ?_; refine SL.W.pvn (SL.PV.maxI (by rfl) (by rfl) hmax) ?_) | refine SL.W.pv ?_ | refine SL.W.pv0 ?_) | (refine SL.W.loud ?_; first | refine SL.W.load ?_ | refine SL.W.loadA ?_ | refine SL.W.store ?_ | refine SL.W.storeA ?_ | (refine SL.W.box ?_; intro b) | (refine SL.W.alloc ?_; intro b) | (refine SL.W.buildSlice ?_; intro b) | (refine SL.W.append ?_; intro a cap) | refine SL.W.bytesToStr ?_ | refine SL.W.toIntC ?_ | (refine SL.W.makeSlice ?_; intro b))) | (refine SL.TK.is ?_; first | refine SL.TK.seq ?_ | refine SL.TK.region ?_ | refine SL.TK.regionD SL.mixed (by simp only [SL.falses] <;> rfl) ?_ | refine SL.TK.block ?_ | refine SL.TK.inBlock ?_ | refine SL.TK.skip ?_ | refine SL.TK.scope ?_ | refine SL.TK.inScope ?_ | refine SL.TK.label ?_ | refine SL.W.exit ?_ | refine SL.W.condT ?_ | refine SL.W.condF ?_) | (refine SL.TD.is ?_; first | (refine SL.W.dfin ?_; simp only [SL.aps]) | refine SL.W.dpass ?_ | refine SL.W.dpure ?_ | refine SL.W.dload ?_ | refine SL.W.dloadA ?_ | refine SL.W.dfrz ?_ | (refine SL.W.dthaw ?_; simp only [SL.aps])) | ((first | refine SL.W.guardP (fun h => ?_) (fun h => ?_) | refine SL.W.condP (fun h => ?_) (fun h => ?_) | refine SL.W.dguardP (fun h => ?_) (fun h => ?_)) <;> (fail_if_success (have : h = trivial := rfl)) <;> (fail_if_success (have : h = not_false := rfl)) <;> first | contradiction | (exfalso; omega) | (exfalso; revert h; simp; done) | skip) | ((first | refine SL.W.guardB (fun h => ?_) (fun h => ?_) | refine SL.W.dguardB (fun h => ?_) (fun h => ?_)) <;> (fail_if_success (have : h = (rfl : true = true) := rfl)) <;> (fail_if_success (have : h = (rfl : false = false) := rfl))) | refine SL.W.condB (fun h => ?_) (fun h => ?_) | (refine SL.TD.is ?_; first | refine SL.W.done ?_ | refine SL.W.dtwo ?_ ?_ | refine SL.W.dthree ?_ ?_ ?_))
  exact SL.TK.retD Tryz.func128 (SL.Res.one rfl (by rfl)) ⟨rfl, rfl⟩ (EntD.cons (by first | ((repeat (first | exact SL.Pick.head | apply SL.Pick.tail)); done) | fail) EntD.nil)
end SL
end
section
set_option linter.unusedVariables false
set_option linter.unusedSimpArgs false
set_option maxRecDepth 10000
namespace SL
open Go Go.Proofs Go.RowKit
section
variable {P : Program} {n : Nat} {ρ : Env} {ty : TypeId} {pos : String} {af : Array Edge} {g : Option (Nat × Bool)}
theorem PV.sliceHM {dst : Option Nat} {x z u : Operand} {t e sz by_ len cap hi mx : Nat} {p : Option Addr} {kd' kd'' : IntKind} {j q : Int} [ht : TSl P t e sz by_]
    (hx : ev ρ x = some (.slice p len cap)) (hz : ev ρ z = some (.int kd' j)) (hu : ev ρ u = some (.int kd'' q)) (h2 : j = hi) (h3 : q = mx) (h5 : hi ≤ mx) (h6 : mx ≤ cap) :
    PV P n ρ ⟨dst, .slice t x none (some z) (some u), ty, pos, af, g⟩ (.slice p hi mx) := fun a w gr => by
  subst h2 h3
  simp [execOp, gr.eval hx, gr.eval hz, gr.eval hu, Instr.sliceAt, Instr.slice, run_und ht.und, Instr.sliceBounds, Instr.sliceBound, asIntOf, ht.size, h5, h6]
  cases p <;> simp [Addr.add]
end
attribute [local irreducible] SL.TK SL.TO SL.TD SL.PV SL.Pick SL.Frm SL.Ent SL.Sub SL.EvAll SL.seps SL.sep SL.Cut SL.PutAt SL.blk SL.EvP SL.Fill SL.Src SL.EntD SL.own SL.ex SL.fact SL.orig
def bytesA (rb p5 p2 p4 n : Nat) : HProp := seps [SL.blk p5 3 [.int .i64 n], SL.blk p2 127 [.pointer (some ⟨rb, 0, none⟩)], SL.blk p4 33 [.slice none 0 0]]
def bytesB (rb p5 p2 p4 n : Nat) (cs : List UInt8) (x : Option Addr × Nat) : HProp := seps [SL.blk p5 3 [.int .i64 n], SL.blk p2 127 [.pointer (some ⟨rb, 0, none⟩)], SL.blk p4 33 [.slice x.1 cs.length x.2], own 5 1 x.1 cs.length x.2 (cs.map byteV)]
theorem bytes1_spec (rb p5 p2 p4 : Nat) (bs : List UInt8) (n : Nat) (hn : n ≤ 1000000000) : Spec Tryz.prog 129 [.pointer (some ⟨p5, 0, none⟩), .pointer (some ⟨p2, 0, none⟩), .pointer (some ⟨p4, 0, none⟩)] [RdAt rb (bs, 0), bytesA rb p5 p2 p4 n]
    (fun r L => r = .tuple #[.int .i64 (if bs.length < n then 0 else n : Nat), .int .i64 (if bs.length < n then 4 else 0)] ∧ ∃ x, L = [RdAt rb (bs, 0), bytesB rb p5 p2 p4 n (if bs.length < n then [] else bs.take n) x]) := by
  refine SL.Spec.of_TK Go.Proofs.Tryz.func129 rfl rfl SL.call129 rfl ?_
  refine SL.TK.sepsC (Pick.tail Pick.head) ?_
  simp only [List.cons_append, List.nil_append]
  refine SL.TK.openRd (by first | ((repeat (first | exact SL.Pick.head | apply SL.Pick.tail)); done) | fail) (fun a cap g hok => ?_)
  by_cases hs0 : bs.length < n
  · rw [if_pos hs0, if_pos hs0, if_pos hs0]
    repeat' (first | (refine SL.TO.is ?_; first | refine SL.TO.nil ?_ | (refine SL.TO.nilD ?_; simp only [SL.setB]) | refine SL.W.pass ?_ | refine SL.W.pass0 ?_ | (refine SL.W.pure ?_; first | refine SL.W.pv ?_ | refine SL.W.pv0 ?_) | (refine SL.W.loud ?_; first | refine SL.W.load ?_ | refine SL.W.loadA ?_ | refine SL.W.store ?_ | refine SL.W.storeA ?_ | (refine SL.W.box ?_; intro b) | (refine SL.W.alloc ?_; intro b) | (refine SL.W.buildSlice ?_; intro b) | (refine SL.W.append ?_; intro a cap) | refine SL.W.bytesToStr ?_ | refine SL.W.toIntC ?_ | (refine SL.W.makeSlice ?_; intro b))) | (refine SL.TK.is ?_; first | refine SL.TK.seq ?_ | refine SL.TK.region ?_ | refine SL.TK.regionD SL.mixed (by simp only [SL.falses] <;> rfl) ?_ | refine SL.TK.block ?_ | refine SL.TK.inBlock ?_ | refine SL.TK.skip ?_ | refine SL.TK.scope ?_ | refine SL.TK.inScope ?_ | refine SL.TK.label ?_ | refine SL.W.exit ?_ | refine SL.W.condT ?_ | refine SL.W.condF ?_) | (refine SL.TD.is ?_; first | (refine SL.W.dfin ?_; simp only [SL.aps]) | refine SL.W.dpass ?_ | refine SL.W.dpure ?_ | refine SL.W.dload ?_ | refine SL.W.dloadA ?_ | refine SL.W.dfrz ?_ | (refine SL.W.dthaw ?_; simp only [SL.aps])) | ((first | refine SL.W.guardP (fun h => ?_) (fun h => ?_) | refine SL.W.condP (fun h => ?_) (fun h => ?_) | refine SL.W.dguardP (fun h => ?_) (fun h => ?_)) <;> (fail_if_success (have : h = trivial := rfl)) <;> (fail_if_success (have : h = not_false := rfl)) <;> first | contradiction | (exfalso; omega) | (exfalso; revert h; simp; done) | skip) | ((first | refine SL.W.guardB (fun h => ?_) (fun h => ?_) | refine SL.W.dguardB (fun h => ?_) (fun h => ?_)) <;> (fail_if_success (have : h = (rfl : true = true) := rfl)) <;> (fail_if_success (have : h = (rfl : false = false) := rfl))) | refine SL.W.condB (fun h => ?_) (fun h => ?_) | (refine SL.TD.is ?_; first | refine SL.W.done ?_ | refine SL.W.dtwo ?_ ?_ | refine SL.W.dthree ?_ ?_ ?_))
    all_goals exact SL.TK.retD Tryz.func129 (SL.Res.two rfl (by rfl) (by rfl)) ⟨rfl, (none, 0), rfl⟩ (EntD.frm (by first | ((repeat (first | exact SL.Frm.nil | exact SL.Frm.refl | (apply SL.Frm.cons; repeat (first | exact SL.Pick.head | apply SL.Pick.tail)))); done) | fail) (rd_shut (s := (bs, 0)) hok) (EntD.trans (EntD.of_ent (Ent.own_nil (e := 5) (sz := 1) Ent.refl)) (EntD.frm (by first | ((repeat (first | exact SL.Frm.nil | exact SL.Frm.refl | (apply SL.Frm.cons; repeat (first | exact SL.Pick.head | apply SL.Pick.tail)))); done) | fail) (fun h x => x) EntD.nil)))
  · rw [if_neg hs0, if_neg hs0, if_neg hs0]
    have hle := hok.le
    simp only at hle
    have hlt : (bs.take n).length = n := by simp; omega
    have hc := bclone_spec (X := RO g) (a := a) (cap := n) (bs := bs.take n) ((RdB.ro hok.rd).take n) (by omega)
    obtain ⟨cs, hcs⟩ : ∃ cs, cs = bs.take n := ⟨_, rfl⟩
    rw [← hcs] at hlt hc ⊢
    have hcH := Lib.hid hc
    clear hc hcs
    subst hlt
    have hok2 := Lib.hid hok
    clear hok
    repeat' (first | (refine SL.TO.is ?_; first | (refine SL.TO.door (o := ⟨_, .call ⟨.value (.func 22), _, _⟩, _, _, _, _⟩) ?_; first | (refine SL.W.call (hcH.out) ?_; rintro _ _ ⟨a1, c1, rfl, ha1, rfl⟩; try simp only [SL.aps])) | refine SL.TO.nil ?_ | (refine SL.TO.nilD ?_; simp only [SL.setB]) | refine SL.W.pass ?_ | refine SL.W.pass0 ?_ | (refine SL.W.pure ?_; first | (refine SL.TO.door (o := ⟨_, .slice _ _ _ _ _, _, _, _, _⟩) ?_; refine SL.W.pvn (SL.PV.sliceHM (by rfl) (by rfl) (by rfl) (by rfl) (by rfl) (Nat.le_refl _) (by omega)) ?_) | refine SL.W.pv ?_ | refine SL.W.pv0 ?_) | (refine SL.W.loud ?_; first | refine SL.W.load ?_ | refine SL.W.loadA ?_ | refine SL.W.store ?_ | refine SL.W.storeA ?_ | (refine SL.W.box ?_; intro b) | (refine SL.W.alloc ?_; intro b) | (refine SL.W.buildSlice ?_; intro b) | (refine SL.W.append ?_; intro a cap) | refine SL.W.bytesToStr ?_ | refine SL.W.toIntC ?_ | (refine SL.W.makeSlice ?_; intro b))) | (refine SL.TK.is ?_; first | refine SL.TK.seq ?_ | refine SL.TK.region ?_ | refine SL.TK.regionD SL.mixed (by simp only [SL.falses] <;> rfl) ?_ | refine SL.TK.block ?_ | refine SL.TK.inBlock ?_ | refine SL.TK.skip ?_ | refine SL.TK.scope ?_ | refine SL.TK.inScope ?_ | refine SL.TK.label ?_ | refine SL.W.exit ?_ | refine SL.W.condT ?_ | refine SL.W.condF ?_) | (refine SL.TD.is ?_; first | (refine SL.W.dfin ?_; simp only [SL.aps]) | refine SL.W.dpass ?_ | refine SL.W.dpure ?_ | refine SL.W.dload ?_ | refine SL.W.dloadA ?_ | refine SL.W.dfrz ?_ | (refine SL.W.dthaw ?_; simp only [SL.aps])) | ((first | refine SL.W.guardP (fun h => ?_) (fun h => ?_) | refine SL.W.condP (fun h => ?_) (fun h => ?_) | refine SL.W.dguardP (fun h => ?_) (fun h => ?_)) <;> (fail_if_success (have : h = trivial := rfl)) <;> (fail_if_success (have : h = not_false := rfl)) <;> first | contradiction | (exfalso; omega) | (exfalso; revert h; simp; done) | skip) | ((first | refine SL.W.guardB (fun h => ?_) (fun h => ?_) | refine SL.W.dguardB (fun h => ?_) (fun h => ?_)) <;> (fail_if_success (have : h = (rfl : true = true) := rfl)) <;> (fail_if_success (have : h = (rfl : false = false) := rfl))) | refine SL.W.condB (fun h => ?_) (fun h => ?_) | (refine SL.TD.is ?_; first | refine SL.W.done ?_ | refine SL.W.dtwo ?_ ?_ | refine SL.W.dthree ?_ ?_ ?_))
    all_goals exact SL.TK.retD Tryz.func129 (SL.Res.two rfl (by rfl) (by rfl)) ⟨rfl, (a1, c1), rfl⟩ (EntD.frm (by first | ((repeat (first | exact SL.Frm.nil | exact SL.Frm.refl | (apply SL.Frm.cons; repeat (first | exact SL.Pick.head | apply SL.Pick.tail)))); done) | fail) (rd_shut (s := (bs, 0)) hok2.out) (EntD.frm (by first | ((repeat (first | exact SL.Frm.nil | exact SL.Frm.refl | (apply SL.Frm.cons; repeat (first | exact SL.Pick.head | apply SL.Pick.tail)))); done) | fail) (fun h x => x) EntD.nil))
theorem rBytes_spec (rb : Nat) (s : RdS) (most : Nat) (hm : most ≤ 1000000000) : Spec Tryz.prog 94 [.pointer (some ⟨rb, 0, none⟩), .int .i64 most] [RdAt rb s]
    (fun r L => ∃ a c, r = .slice a (rBytes most s).1.length c ∧ (a = none → (rBytes most s).1 = []) ∧ L = [RdAt rb (rBytes most s).2, own 5 1 a (rBytes most s).1.length c ((rBytes most s).1.map byteV)]) := by
  have hc := Lib.hid (rCount_spec rb s most hm)
  have hle := rUpto_le most s
  unfold rBytes
  obtain ⟨N, hN⟩ : ∃ N, N = rUpto most s := ⟨_, rfl⟩
  rw [← hN] at hc hle ⊢
  obtain ⟨n, bs, e⟩ := N
  simp only at hc hle ⊢
  by_cases hs0 : e = 0
  · subst hs0
    obtain ⟨cs, hcs⟩ : ∃ cs, cs = if bs.length < n then [] else bs.take n := ⟨_, rfl⟩
    have hr := fun (p5 p2 p4 : Nat) => reads_ok rb bs 129 [.pointer (some ⟨p5, 0, none⟩), .pointer (some ⟨p2, 0, none⟩), .pointer (some ⟨p4, 0, none⟩)] _ _ _ _ (fun h => by split <;> omega) (bytes1_spec rb p5 p2 p4 bs n (by omega))
    obtain ⟨S, hS⟩ : ∃ S : RdS, S = if (if bs.length < n then (4 : Int) else 0) = 0 then (bs.drop (if bs.length < n then 0 else n), 0) else (bs, (if bs.length < n then 4 else 0)) := ⟨_, rfl⟩
    rw [← hcs, ← hS] at hr
    have hres : (if (0 : Int) = 0 then if bs.length < n then (([] : List UInt8), bs, (4 : Int)) else (bs.take n, bs.drop n, 0) else ([], bs, 0)) = (cs, S) := by
      rw [hcs, hS]
      by_cases h : bs.length < n
      · simp [h]
      · simp [h]
    rw [hres]
    have hrH := Lib.hid hr
    clear hr hres hS hcs hN
    unfold bytesA bytesB at hrH
    refine SL.Spec.of_TK Go.Proofs.Tryz.func94 rfl rfl SL.call94 rfl ?_
    repeat' (first | (refine SL.TO.is ?_; first | (refine SL.TO.door (o := ⟨_, .call ⟨.value (.func 128), _, _⟩, _, _, _, _⟩) ?_; first | (refine SL.W.call (hc.out) ?_; rintro _ _ ⟨rfl, rfl⟩; try simp only [SL.aps])) | (refine SL.TO.door (o := ⟨_, .call ⟨.value (.func 90), _, _⟩, _, _, _, _⟩) ?_; first | (refine SL.TO.entD (L' := [RdAt rb (bs, 0), seps [SL.blk _ 3 [.int .i64 n], SL.blk _ 127 [.pointer (some ⟨rb, 0, none⟩)], SL.blk _ 33 [.slice none 0 0]]]) (EntD.cons (by first | ((repeat (first | exact SL.Pick.head | apply SL.Pick.tail)); done) | fail) (EntD.frm (by first | ((repeat (first | exact SL.Frm.nil | exact SL.Frm.refl | (apply SL.Frm.cons; repeat (first | exact SL.Pick.head | apply SL.Pick.tail)))); done) | fail) (fun h x => x) EntD.nil)) ?_; (refine SL.W.call (hrH.out _ _ _) ?_; rintro _ _ ⟨rfl, ⟨a1, c1⟩, rfl⟩; try simp only [SL.aps]); refine SL.TO.sepsC (Pick.tail Pick.head) ?_; simp only [List.cons_append, List.nil_append])) | refine SL.TO.nil ?_ | (refine SL.TO.nilD ?_; simp only [SL.setB]) | refine SL.W.pass ?_ | refine SL.W.pass0 ?_ | (refine SL.W.pure ?_; first | refine SL.W.pv ?_ | refine SL.W.pv0 ?_) | (refine SL.W.loud ?_; first | refine SL.W.load ?_ | refine SL.W.loadA ?_ | refine SL.W.store ?_ | refine SL.W.storeA ?_ | (refine SL.W.box ?_; intro b) | (refine SL.W.alloc ?_; intro b) | (refine SL.W.buildSlice ?_; intro b) | (refine SL.W.append ?_; intro a cap) | refine SL.W.bytesToStr ?_ | refine SL.W.toIntC ?_ | (refine SL.W.makeSlice ?_; intro b))) | (refine SL.TK.is ?_; first | refine SL.TK.seq ?_ | refine SL.TK.region ?_ | refine SL.TK.regionD SL.mixed (by simp only [SL.falses] <;> rfl) ?_ | refine SL.TK.block ?_ | refine SL.TK.inBlock ?_ | refine SL.TK.skip ?_ | refine SL.TK.scope ?_ | refine SL.TK.inScope ?_ | refine SL.TK.label ?_ | refine SL.W.exit ?_ | refine SL.W.condT ?_ | refine SL.W.condF ?_) | (refine SL.TD.is ?_; first | (refine SL.W.dfin ?_; simp only [SL.aps]) | refine SL.W.dpass ?_ | refine SL.W.dpure ?_ | refine SL.W.dload ?_ | refine SL.W.dloadA ?_ | refine SL.W.dfrz ?_ | (refine SL.W.dthaw ?_; simp only [SL.aps])) | ((first | refine SL.W.guardP (fun h => ?_) (fun h => ?_) | refine SL.W.condP (fun h => ?_) (fun h => ?_) | refine SL.W.dguardP (fun h => ?_) (fun h => ?_)) <;> (fail_if_success (have : h = trivial := rfl)) <;> (fail_if_success (have : h = not_false := rfl)) <;> first | contradiction | (exfalso; omega) | (exfalso; revert h; simp; done) | skip) | ((first | refine SL.W.guardB (fun h => ?_) (fun h => ?_) | refine SL.W.dguardB (fun h => ?_) (fun h => ?_)) <;> (fail_if_success (have : h = (rfl : true = true) := rfl)) <;> (fail_if_success (have : h = (rfl : false = false) := rfl))) | refine SL.W.condB (fun h => ?_) (fun h => ?_) | (refine SL.TD.is ?_; first | refine SL.W.done ?_ | refine SL.W.dtwo ?_ ?_ | refine SL.W.dthree ?_ ?_ ?_))
    refine SL.TK.ownFact (e := 5) (sz := 1) (by first | ((repeat (first | exact SL.Pick.head | apply SL.Pick.tail)); done) | fail) (fun hn => ?_)
    exact SL.TK.retD Tryz.func94 (SL.Res.cellS rfl (by rfl) (by first | ((repeat (first | exact SL.Pick.head | apply SL.Pick.tail)); done) | fail) (by rfl)) ⟨a1, c1, rfl, fun h => map_nil (hn h), rfl⟩ (EntD.cons (by first | ((repeat (first | exact SL.Pick.head | apply SL.Pick.tail)); done) | fail) (EntD.cons (by first | ((repeat (first | exact SL.Pick.head | apply SL.Pick.tail)); done) | fail) EntD.nil))
  · rw [if_neg hs0]
    have hr := Lib.hid fun (fv : Value) => reads_err rb (bs, e) fv hs0
    clear hN
    refine SL.Spec.of_TK Go.Proofs.Tryz.func94 rfl rfl SL.call94 rfl ?_
    repeat' (first | (refine SL.TO.is ?_; first | (refine SL.TO.door (o := ⟨_, .call ⟨.value (.func 128), _, _⟩, _, _, _, _⟩) ?_; first | (refine SL.W.call (hc.out) ?_; rintro _ _ ⟨rfl, rfl⟩; try simp only [SL.aps])) | (refine SL.TO.door (o := ⟨_, .call ⟨.value (.func 90), _, _⟩, _, _, _, _⟩) ?_; first | (refine SL.W.call (hr.out _) ?_; rintro _ _ ⟨rfl, rfl⟩; try simp only [SL.aps])) | refine SL.TO.nil ?_ | (refine SL.TO.nilD ?_; simp only [SL.setB]) | refine SL.W.pass ?_ | refine SL.W.pass0 ?_ | (refine SL.W.pure ?_; first | refine SL.W.pv ?_ | refine SL.W.pv0 ?_) | (refine SL.W.loud ?_; first | refine SL.W.load ?_ | refine SL.W.loadA ?_ | refine SL.W.store ?_ | refine SL.W.storeA ?_ | (refine SL.W.box ?_; intro b) | (refine SL.W.alloc ?_; intro b) | (refine SL.W.buildSlice ?_; intro b) | (refine SL.W.append ?_; intro a cap) | refine SL.W.bytesToStr ?_ | refine SL.W.toIntC ?_ | (refine SL.W.makeSlice ?_; intro b))) | (refine SL.TK.is ?_; first | refine SL.TK.seq ?_ | refine SL.TK.region ?_ | refine SL.TK.regionD SL.mixed (by simp only [SL.falses] <;> rfl) ?_ | refine SL.TK.block ?_ | refine SL.TK.inBlock ?_ | refine SL.TK.skip ?_ | refine SL.TK.scope ?_ | refine SL.TK.inScope ?_ | refine SL.TK.label ?_ | refine SL.W.exit ?_ | refine SL.W.condT ?_ | refine SL.W.condF ?_) | (refine SL.TD.is ?_; first | (refine SL.W.dfin ?_; simp only [SL.aps]) | refine SL.W.dpass ?_ | refine SL.W.dpure ?_ | refine SL.W.dload ?_ | refine SL.W.dloadA ?_ | refine SL.W.dfrz ?_ | (refine SL.W.dthaw ?_; simp only [SL.aps])) | ((first | refine SL.W.guardP (fun h => ?_) (fun h => ?_) | refine SL.W.condP (fun h => ?_) (fun h => ?_) | refine SL.W.dguardP (fun h => ?_) (fun h => ?_)) <;> (fail_if_success (have : h = trivial := rfl)) <;> (fail_if_success (have : h = not_false := rfl)) <;> first | contradiction | (exfalso; omega) | (exfalso; revert h; simp; done) | skip) | ((first | refine SL.W.guardB (fun h => ?_) (fun h => ?_) | refine SL.W.dguardB (fun h => ?_) (fun h => ?_)) <;> (fail_if_success (have : h = (rfl : true = true) := rfl)) <;> (fail_if_success (have : h = (rfl : false = false) := rfl))) | refine SL.W.condB (fun h => ?_) (fun h => ?_) | (refine SL.TD.is ?_; first | refine SL.W.done ?_ | refine SL.W.dtwo ?_ ?_ | refine SL.W.dthree ?_ ?_ ?_))
    exact SL.TK.retD Tryz.func94 (SL.Res.cellS rfl (by rfl) (by first | ((repeat (first | exact SL.Pick.head | apply SL.Pick.tail)); done) | fail) (by rfl)) ⟨none, 0, rfl, by simp, rfl⟩ (EntD.trans (EntD.of_ent (Ent.own_nil (e := 5) (sz := 1) Ent.refl)) (EntD.cons (by first | ((repeat (first | exact SL.Pick.head | apply SL.Pick.tail)); done) | fail) (EntD.cons (by first | ((repeat (first | exact SL.Pick.head | apply SL.Pick.tail)); done) | fail) EntD.nil)))
end SL
end
section
set_option linter.unusedVariables false
set_option linter.unusedSimpArgs false
set_option maxRecDepth 10000
namespace SL
open Go Go.Proofs Go.RowKit
abbrev OV := Nat × List UInt8
abbrev OT := List (Int × OV)
def olk (q : Int) : OT → Option OV
  | [] => none
  | p :: T => if p.1 = q then some p.2 else olk q T
def oins (q : Int) (v : OV) : OT → OT
  | [] => [(q, v)]
  | p :: T => if p.1 < q then p :: oins q v T else if p.1 = q then (q, v) :: T else (q, v) :: p :: T
theorem olk_ins (q x : Int) (v : OV) : ∀ T : OT, olk x (oins q v T) = if q = x then some v else olk x T
  | [] => by simp [oins, olk]
  | p :: T => by
    simp only [oins]
    split
    · rename_i h
      simp only [olk, olk_ins q x v T]
      by_cases e : p.1 = x
      · rw [if_pos e, if_pos e, if_neg (by omega)]
      · rw [if_neg e, if_neg e]
    · split
      · rename_i h1 h2
        by_cases e : q = x
        · simp [olk, e]
        · simp only [olk, if_neg e]
          rw [if_neg (by omega)]
      · by_cases e : q = x
        · simp [olk, e]
        · simp only [olk, if_neg e]
theorem olk_none {q : Int} : ∀ {T : OT}, olk q T = none ↔ q ∉ T.map (·.1)
  | [] => by simp [olk]
  | p :: T => by
    simp only [olk, List.map_cons, List.mem_cons, not_or]
    split
    · rename_i h; simp [h]
    · rename_i h
      rw [olk_none]
      exact ⟨fun x => ⟨fun e => h e.symm, x⟩, fun x => x.2⟩
theorem olk_some_mem {q : Int} {v : OV} : ∀ {T : OT}, olk q T = some v → (q, v) ∈ T
  | [], h => by simp [olk] at h
  | p :: T, h => by
    simp only [olk] at h
    split at h
    · rename_i e
      simp at h
      rw [← e, ← h]
      exact List.mem_cons_self ..
    · exact List.mem_cons_of_mem _ (olk_some_mem h)
theorem mem_oins {q : Int} {v : OV} {x : Int × OV} : ∀ {T : OT}, x ∈ oins q v T → x = (q, v) ∨ x ∈ T
  | [], h => by simp [oins] at h; exact .inl h
  | p :: T, h => by
    simp only [oins] at h
    split at h
    · rcases List.mem_cons.1 h with h | h
      · exact .inr (by rw [h]; exact List.mem_cons_self ..)
      · rcases mem_oins h with h | h
        · exact .inl h
        · exact .inr (List.mem_cons_of_mem _ h)
    · split at h
      · rcases List.mem_cons.1 h with h | h
        · exact .inl h
        · exact .inr (List.mem_cons_of_mem _ h)
      · rcases List.mem_cons.1 h with h | h
        · exact .inl h
        · exact .inr h
theorem oins_keys {q x : Int} {v : OV} {T : OT} : x ∈ (oins q v T).map (·.1) ↔ x = q ∨ x ∈ T.map (·.1) := by
  have h1 := @olk_none x (oins q v T)
  have h2 := @olk_none x T
  rw [olk_ins] at h1
  by_cases e : q = x
  · rw [if_pos e] at h1
    simp only [reduceCtorEq, false_iff, Decidable.not_not] at h1
    exact ⟨fun _ => .inl e.symm, fun _ => h1⟩
  · rw [if_neg e] at h1
    have h3 : x ∉ (oins q v T).map (·.1) ↔ x ∉ T.map (·.1) := by rw [← h1, ← h2]
    constructor
    · intro h
      exact .inr (Decidable.byContradiction fun c => h3.2 c h)
    · rintro (h | h)
      · exact absurd h.symm e
      · exact Decidable.byContradiction fun c => h3.1 c h
def ORise (T : OT) : Prop := (T.map (·.1)).Pairwise (· < ·)
theorem ORise.ins {q : Int} {v : OV} : ∀ {T : OT}, ORise T → ORise (oins q v T)
  | [], h => by simp [oins, ORise]
  | p :: T, h => by
    have h' : (∀ x ∈ T.map (·.1), p.1 < x) ∧ ORise T := by simpa only [ORise, List.map_cons, List.pairwise_cons] using h
    simp only [oins]
    split
    · rename_i hlt
      show ((p :: oins q v T).map (·.1)).Pairwise _
      rw [List.map_cons, List.pairwise_cons]
      refine ⟨fun x hx => ?_, h'.2.ins⟩
      rcases oins_keys.1 hx with rfl | hx
      · exact hlt
      · exact h'.1 x hx
    · split
      · rename_i h1 h2
        show (((q, v) :: T).map (·.1)).Pairwise _
        rw [List.map_cons, List.pairwise_cons]
        exact ⟨fun x hx => by have := h'.1 x hx; simp only; omega, h'.2⟩
      · rename_i h1 h2
        show (((q, v) :: p :: T).map (·.1)).Pairwise _
        rw [List.map_cons, List.pairwise_cons]
        refine ⟨fun x hx => ?_, h⟩
        simp only [List.map_cons, List.mem_cons] at hx
        rcases hx with rfl | hx
        · simp only; omega
        · have := h'.1 x hx; simp only; omega
theorem oins_len {q : Int} {v : OV} : ∀ {T : OT}, ORise T → (oins q v T).length = if (olk q T).isSome then T.length else T.length + 1
  | [], h => by simp [oins, olk]
  | p :: T, h => by
    have h' : (∀ x ∈ T.map (·.1), p.1 < x) ∧ ORise T := by simpa only [ORise, List.map_cons, List.pairwise_cons] using h
    by_cases hlt : p.1 < q
    · have e1 : oins q v (p :: T) = p :: oins q v T := by simp only [oins]; rw [if_pos hlt]
      have e2 : olk q (p :: T) = olk q T := by simp only [olk]; rw [if_neg (by omega)]
      rw [e1, e2, List.length_cons, oins_len h'.2]
      split <;> simp
    · by_cases h2 : p.1 = q
      · have e1 : oins q v (p :: T) = (q, v) :: T := by simp only [oins]; rw [if_neg hlt, if_pos h2]
        have e2 : olk q (p :: T) = some p.2 := by simp only [olk]; rw [if_pos h2]
        rw [e1, e2]
        simp
      · have e1 : oins q v (p :: T) = (q, v) :: p :: T := by simp only [oins]; rw [if_neg hlt, if_neg h2]
        have e2 : olk q (p :: T) = none := olk_none.2 fun c => by
          simp only [List.map_cons, List.mem_cons] at c
          rcases c with c | c
          · exact h2 c.symm
          · have := h'.1 q c; omega
        rw [e1, e2]
        simp
structure TOk (T : OT) : Prop where
  rise : ORise T
  len : T.length ≤ 16
  all : ∀ p ∈ T, 0 ≤ p.1 ∧ p.1 ≤ 4294967295 ∧ p.2.1 < 18446744073709551616 ∧ p.2.2.length ≤ 1048576
theorem TOk.nil : TOk [] := ⟨by simp [ORise], by simp, by simp⟩
theorem TOk.ins {T : OT} (h : TOk T) {q : Int} {v : OV} (hq : 0 ≤ q ∧ q ≤ 4294967295) (hv : v.1 < 18446744073709551616 ∧ v.2.length ≤ 1048576) (hl : (olk q T).isSome = true ∨ T.length < 16) : TOk (oins q v T) := by
  refine ⟨h.rise.ins, ?_, fun p hp => ?_⟩
  · rw [oins_len h.rise]
    have := h.len
    split
    · exact this
    · rcases hl with hl | hl
      · contradiction
      · omega
  · rcases mem_oins hp with rfl | hp
    · exact ⟨hq.1, hq.2, hv.1, hv.2⟩
    · exact h.all p hp
theorem TOk.lk {T : OT} (h : TOk T) {q : Int} {v : OV} (e : olk q T = some v) : v.1 < 18446744073709551616 ∧ v.2.length ≤ 1048576 := by
  have := h.all _ (olk_some_mem e)
  exact ⟨this.2.2.1, this.2.2.2⟩
theorem strict_nodup {xs : List Int} (h : xs.Pairwise (· < ·)) : xs.Nodup := h.imp fun h => by omega
def VO (v : OV) (a : Option Addr) (c : Nat) : Value := .agg [.int .u64 (v.1 : Int), .slice a v.2.length c].toArray
structure Tv (g : Hp) (l : List (Int × Value)) (T : OT) : Prop where
  keys : ∀ q, q ∈ l.map (·.1) ↔ q ∈ T.map (·.1)
  val : ∀ q v, olk q T = some v → ∃ a c, get q l = some (VO v a c) ∧ RdG g a (v.2.map byteV) ∧ v.2.length ≤ c
theorem get_none_iff {q : Int} : ∀ {l : List (Int × Value)}, get q l = none ↔ q ∉ l.map (·.1)
  | [] => by simp [get]
  | p :: l => by
    simp only [get, List.map_cons, List.mem_cons, not_or]
    split
    · rename_i h; simp [h]
    · rename_i h
      rw [get_none_iff]
      exact ⟨fun x => ⟨fun e => h e.symm, x⟩, fun x => x.2⟩
theorem Tv.none {g : Hp} {l : List (Int × Value)} {T : OT} (h : Tv g l T) {q : Int} (e : olk q T = none) : get q l = none := by
  rw [get_none_iff, h.keys]
  exact olk_none.1 e
theorem Tv.nil (g : Hp) : Tv g [] [] := ⟨by simp, by simp [olk]⟩
theorem Tv.le {g g' : Hp} {l : List (Int × Value)} {T : OT} (h : Tv g l T) (hg : HLe g g') : Tv g' l T :=
  ⟨h.keys, fun q v e => by obtain ⟨a, c, h1, h2, h3⟩ := h.val q v e; exact ⟨a, c, h1, h2.le hg, h3⟩⟩
theorem get_upd (q x : Int) (v : Value) : ∀ l : List (Int × Value), get x (upd q v l) = if q = x then some v else get x l
  | [] => by simp [upd, get]
  | p :: l => by
    simp only [upd]
    split
    · rename_i h
      by_cases e : q = x
      · simp [get, e]
      · simp only [get, if_neg e]
        rw [if_neg (by omega)]
    · rename_i h
      simp only [get, get_upd q x v l]
      by_cases e : p.1 = x
      · rw [if_pos e, if_pos e, if_neg (by omega)]
      · rw [if_neg e, if_neg e]
theorem upd_keys {q x : Int} {v : Value} {l : List (Int × Value)} : x ∈ (upd q v l).map (·.1) ↔ x = q ∨ x ∈ l.map (·.1) := by
  have h1 := @get_none_iff x (upd q v l)
  have h2 := @get_none_iff x l
  rw [get_upd] at h1
  by_cases e : q = x
  · rw [if_pos e] at h1
    simp only [reduceCtorEq, false_iff, Decidable.not_not] at h1
    exact ⟨fun _ => .inl e.symm, fun _ => h1⟩
  · rw [if_neg e] at h1
    have h3 : x ∉ (upd q v l).map (·.1) ↔ x ∉ l.map (·.1) := by rw [← h1, ← h2]
    constructor
    · intro h
      exact .inr (Decidable.byContradiction fun c => h3.2 c h)
    · rintro (h | h)
      · exact absurd h.symm e
      · exact Decidable.byContradiction fun c => h3.1 c h
theorem Tv.ins {g : Hp} {l : List (Int × Value)} {T : OT} (h : Tv g l T) {q : Int} {v : OV} {a : Option Addr} {c : Nat} (hr : RdG g a (v.2.map byteV)) (hc : v.2.length ≤ c) : Tv g (upd q (VO v a c) l) (oins q v T) := by
  refine ⟨fun x => by rw [upd_keys, oins_keys, h.keys], fun x w e => ?_⟩
  rw [olk_ins] at e
  rw [get_upd]
  split at e
  · rename_i hq
    simp at e
    subst e
    exact ⟨a, c, by rw [if_pos hq], hr, hc⟩
  · rename_i hq
    rw [if_neg hq]
    exact h.val x w e
theorem Tv.len {g : Hp} {l : List (Int × Value)} {T : OT} (h : Tv g l T) (hn : (l.map (·.1)).Nodup) (hT : ORise T) : l.length = T.length := by
  have := (perm_nodup hn (strict_nodup hT) h.keys).length_eq
  simpa using this
theorem Tv.srt {g : Hp} {l : List (Int × Value)} {T : OT} (h : Tv g l T) {ks : List Int} (hn : ks.Nodup) (hm : ∀ q, q ∈ ks ↔ q ∈ l.map (·.1)) (hT : ORise T) : SL.srt ks = T.map (·.1) := by
  refine sorted_unique (srt_sorted ks) (hT.imp fun h => by omega) ?_
  exact (srt_perm ks).trans (perm_nodup hn (strict_nodup hT) fun q => by rw [hm, h.keys])
def TbAt (tb : Nat) (T : OT) : HProp := SL.ex fun p : Nat × List (Int × Value) × Hp => seps [SL.fact (Tv p.2.2 p.2.1 T), SL.blk tb 124 [.map (some p.1)], mp (Value.int .u32) p.1 p.2.1, RO p.2.2]
theorem tb_shut {tb mb : Nat} {l : List (Int × Value)} {g : Hp} {T : OT} (hv : Tv g l T) : ∀ h, seps [SL.blk tb 124 [.map (some mb)], mp (Value.int .u32) mb l, RO g] h → TbAt tb T h := fun h x => ⟨(mb, l, g), sep_fact.2 ⟨hv, x⟩⟩
section
variable {P : Program} {fid : Fm} {n : Nat} {post : Post} {k : List Item} {ρ : Env} {L r : List HProp}
theorem TK.openTb {tb : Nat} {T : OT} (hp : Pick L (TbAt tb T) r) (h : ∀ mb l g, Tv g l T → (l.map (·.1)).Nodup → TK P fid n post k ρ (SL.blk tb 124 [.map (some mb)] :: mp (Value.int .u32) mb l :: RO g :: r)) : TK P fid n post k ρ L :=
  TK.exC hp fun p => TK.sepsC Pick.head (TK.fact Pick.head fun hv => TK.mpNodup (Pick.tail Pick.head) fun hn => h p.1 p.2.1 p.2.2 hv hn)
end
def tbs (T : OT) : List UInt8 := putN T.length ++ T.flatMap fun p => putN p.1.toNat ++ putN p.2.1 ++ putN p.2.2.length ++ p.2.2
end SL
end
section
set_option linter.unusedVariables false
set_option linter.unusedSimpArgs false
set_option maxRecDepth 10000
namespace SL
open Go Go.Proofs Go.RowKit
attribute [local irreducible] SL.TK SL.TO SL.TD SL.PV SL.Pick SL.Frm SL.Ent SL.Sub SL.EvAll SL.seps SL.sep SL.Cut SL.PutAt SL.blk SL.EvP SL.Fill SL.Src SL.EntD SL.own SL.ex SL.fact SL.orig
def askR (T : OT) (q : Int) (req : Nat) : Int × List UInt8 × Int :=
  if req = 0 then (0, [], 1) else match olk q T with
  | none => if 16 ≤ T.length then (0, [], 7) else (0, [], 0)
  | some v => if v.1 < req then (0, [], 0) else if req = v.1 then (1, v.2, 0) else (2, [], 0)
def setR (T : OT) (q : Int) (req : Nat) (x : List UInt8) : Int × OT :=
  if ¬ (askR T q req).2.2 = 0 then ((askR T q req).2.2, T) else if ¬ (askR T q req).1 = 0 then (37, T) else if 1048576 < x.length then (3, T) else (0, oins q (req, x) T)
theorem tNone_spec (tb mb : Nat) : Spec Tryz.prog 60 [.pointer (some ⟨tb, 0, none⟩)] [SL.blk tb 124 [.map (some mb)]] (fun r L => r = .bool false ∧ L = [SL.blk tb 124 [.map (some mb)]]) := by
  refine SL.Spec.of_TK Go.Proofs.Tryz.func60 rfl rfl SL.call60 rfl ?_
  repeat' (first | (refine SL.TO.is ?_; first | (refine SL.W.quick ?_; first | refine SL.W.pass ?_ | refine SL.W.pv ?_ | refine SL.W.pv0 ?_) | refine SL.TO.nil ?_ | (refine SL.TO.nilD ?_; simp only [SL.setB]) | refine SL.W.pass ?_ | refine SL.W.pass0 ?_ | (refine SL.W.pure ?_; first | refine SL.W.pv ?_ | refine SL.W.pv0 ?_ | refine SL.W.lenMp ?_) | (refine SL.W.loud ?_; first | refine SL.W.load ?_ | refine SL.W.loadA ?_ | refine SL.W.store ?_ | refine SL.W.storeA ?_ | (refine SL.W.box ?_; intro b) | (refine SL.W.alloc ?_; intro b) | (refine SL.W.buildSlice ?_; intro b) | (refine SL.W.append ?_; intro a cap) | refine SL.W.bytesToStr ?_ | refine SL.W.toIntC ?_ | (refine SL.W.makeSlice ?_; intro b) | refine SL.W.lookupOk ?_ | refine SL.W.lookup ?_ | (refine SL.W.makeMap ?_; intro b) | refine SL.W.mapUpdate ?_ | (refine SL.W.mapEntry ?_; intro stamp) | refine SL.W.entryStore ?_ | (refine SL.W.range ?_; intro it) | refine SL.W.delete ?_)) | (refine SL.TK.is ?_; first | refine SL.TK.seq ?_ | refine SL.TK.region ?_ | refine SL.TK.regionD SL.mixed (by simp only [SL.falses] <;> rfl) ?_ | refine SL.TK.block ?_ | refine SL.TK.inBlock ?_ | refine SL.TK.skip ?_ | refine SL.TK.scope ?_ | refine SL.TK.inScope ?_ | refine SL.TK.label ?_ | (refine SL.TK.isExit ?_; refine SL.W.exit ?_) | refine SL.W.condT ?_ | refine SL.W.condF ?_) | (refine SL.TD.is ?_; first | (refine SL.W.dfin ?_; simp only [SL.aps]) | refine SL.W.dpass ?_ | refine SL.W.dpure ?_ | refine SL.W.dload ?_ | refine SL.W.dloadA ?_ | refine SL.W.dfrz ?_ | (refine SL.W.dthaw ?_; simp only [SL.aps])) | ((first | refine SL.W.guardP (fun h => ?_) (fun h => ?_) | refine SL.W.condP (fun h => ?_) (fun h => ?_) | refine SL.W.dguardP (fun h => ?_) (fun h => ?_)) <;> (fail_if_success (have : h = trivial := rfl)) <;> (fail_if_success (have : h = not_false := rfl)) <;> first | contradiction | (exfalso; omega) | (exfalso; revert h; simp; done) | skip) | ((first | refine SL.W.guardB (fun h => ?_) (fun h => ?_) | refine SL.W.dguardB (fun h => ?_) (fun h => ?_)) <;> (fail_if_success (have : h = (rfl : true = true) := rfl)) <;> (fail_if_success (have : h = (rfl : false = false) := rfl))) | refine SL.W.condB (fun h => ?_) (fun h => ?_) | (refine SL.TD.is ?_; first | refine SL.W.done ?_ | refine SL.W.dtwo ?_ ?_ | refine SL.W.dthree ?_ ?_ ?_))
  all_goals exact SL.TK.retD Tryz.func60 (SL.Res.one rfl (by rfl)) ⟨rfl, rfl⟩ EntD.refl
theorem tNew_spec : Spec Tryz.prog 48 [] [] (fun r L => ∃ tb, r = .pointer (some ⟨tb, 0, none⟩) ∧ L = [TbAt tb []]) := by
  refine SL.Spec.of_TK Go.Proofs.Tryz.func48 rfl rfl SL.call48 rfl ?_
  repeat' (first | (refine SL.TO.is ?_; first | (refine SL.W.quick ?_; first | refine SL.W.pass ?_ | refine SL.W.pv ?_ | refine SL.W.pv0 ?_) | refine SL.TO.nil ?_ | (refine SL.TO.nilD ?_; simp only [SL.setB]) | refine SL.W.pass ?_ | refine SL.W.pass0 ?_ | (refine SL.W.pure ?_; first | refine SL.W.pv ?_ | refine SL.W.pv0 ?_ | refine SL.W.lenMp ?_) | (refine SL.W.loud ?_; first | refine SL.W.load ?_ | refine SL.W.loadA ?_ | refine SL.W.store ?_ | refine SL.W.storeA ?_ | (refine SL.W.box ?_; intro b) | (refine SL.W.alloc ?_; intro b) | (refine SL.W.buildSlice ?_; intro b) | (refine SL.W.append ?_; intro a cap) | refine SL.W.bytesToStr ?_ | refine SL.W.toIntC ?_ | (refine SL.W.makeSlice ?_; intro b) | refine SL.W.lookupOk ?_ | refine SL.W.lookup ?_ | (refine SL.W.makeMap ?_; intro b) | refine SL.W.mapUpdate ?_ | (refine SL.W.mapEntry ?_; intro stamp) | refine SL.W.entryStore ?_ | (refine SL.W.range ?_; intro it) | refine SL.W.delete ?_)) | (refine SL.TK.is ?_; first | refine SL.TK.seq ?_ | refine SL.TK.region ?_ | refine SL.TK.regionD SL.mixed (by simp only [SL.falses] <;> rfl) ?_ | refine SL.TK.block ?_ | refine SL.TK.inBlock ?_ | refine SL.TK.skip ?_ | refine SL.TK.scope ?_ | refine SL.TK.inScope ?_ | refine SL.TK.label ?_ | (refine SL.TK.isExit ?_; refine SL.W.exit ?_) | refine SL.W.condT ?_ | refine SL.W.condF ?_) | (refine SL.TD.is ?_; first | (refine SL.W.dfin ?_; simp only [SL.aps]) | refine SL.W.dpass ?_ | refine SL.W.dpure ?_ | refine SL.W.dload ?_ | refine SL.W.dloadA ?_ | refine SL.W.dfrz ?_ | (refine SL.W.dthaw ?_; simp only [SL.aps])) | ((first | refine SL.W.guardP (fun h => ?_) (fun h => ?_) | refine SL.W.condP (fun h => ?_) (fun h => ?_) | refine SL.W.dguardP (fun h => ?_) (fun h => ?_)) <;> (fail_if_success (have : h = trivial := rfl)) <;> (fail_if_success (have : h = not_false := rfl)) <;> first | contradiction | (exfalso; omega) | (exfalso; revert h; simp; done) | skip) | ((first | refine SL.W.guardB (fun h => ?_) (fun h => ?_) | refine SL.W.dguardB (fun h => ?_) (fun h => ?_)) <;> (fail_if_success (have : h = (rfl : true = true) := rfl)) <;> (fail_if_success (have : h = (rfl : false = false) := rfl))) | refine SL.W.condB (fun h => ?_) (fun h => ?_) | (refine SL.TD.is ?_; first | refine SL.W.done ?_ | refine SL.W.dtwo ?_ ?_ | refine SL.W.dthree ?_ ?_ ?_))
  refine SL.TK.entD SL.ro_new ?_
  exact SL.TK.retD Tryz.func48 (SL.Res.one rfl (by rfl)) ⟨_, rfl, rfl⟩ (EntD.frm (by first | ((repeat (first | exact SL.Frm.nil | exact SL.Frm.refl | (apply SL.Frm.cons; repeat (first | exact SL.Pick.head | apply SL.Pick.tail)))); done) | fail) (tb_shut (Tv.nil _)) EntD.nil)
theorem tAsk_spec (tb : Nat) (T : OT) (hT : TOk T) (q : Int) (req : Nat) : Spec Tryz.prog 39 [.pointer (some ⟨tb, 0, none⟩), .int .u32 q, .int .u64 req] [TbAt tb T]
    (fun r L => ∃ a c, r = .tuple #[.int .i64 (askR T q req).1, .slice a (askR T q req).2.1.length c, .int .i64 (askR T q req).2.2] ∧ (a = none → (askR T q req).2.1 = []) ∧ L = [TbAt tb T, own 5 1 a (askR T q req).2.1.length c ((askR T q req).2.1.map byteV)]) := by
  refine SL.Spec.of_TK Go.Proofs.Tryz.func39 rfl rfl SL.call39 rfl ?_
  refine SL.TK.openTb (by first | ((repeat (first | exact SL.Pick.head | apply SL.Pick.tail)); done) | fail) (fun mb l g hv hn => ?_)
  have hlen := hv.len hn hT.rise
  have hV := Lib.hid hv
  unfold askR
  by_cases h0 : req = 0
  · subst h0
    clear hv
    repeat' (first | (refine SL.TO.is ?_; first | (refine SL.W.quick ?_; first | refine SL.W.pass ?_ | refine SL.W.pv ?_ | refine SL.W.pv0 ?_) | (refine SL.TO.door (o := ⟨_, .call _, _, _, _, _⟩) ?_; first | (refine SL.TO.door (o := ⟨_, .call ⟨.value (.func 60), _, _⟩, _, _, _, _⟩) ?_; first | (refine SL.W.call (tNone_spec _ _) ?_; rintro _ _ ⟨rfl, rfl⟩; try simp only [SL.aps]))) | refine SL.TO.nil ?_ | (refine SL.TO.nilD ?_; simp only [SL.setB]) | refine SL.W.pass ?_ | refine SL.W.pass0 ?_ | (refine SL.W.pure ?_; first | refine SL.W.pv ?_ | refine SL.W.pv0 ?_ | refine SL.W.lenMp ?_) | (refine SL.W.loud ?_; first | refine SL.W.load ?_ | refine SL.W.loadA ?_ | refine SL.W.store ?_ | refine SL.W.storeA ?_ | (refine SL.W.box ?_; intro b) | (refine SL.W.alloc ?_; intro b) | (refine SL.W.buildSlice ?_; intro b) | (refine SL.W.append ?_; intro a cap) | refine SL.W.bytesToStr ?_ | refine SL.W.toIntC ?_ | (refine SL.W.makeSlice ?_; intro b) | refine SL.W.lookupOk ?_ | refine SL.W.lookup ?_ | (refine SL.W.makeMap ?_; intro b) | refine SL.W.mapUpdate ?_ | (refine SL.W.mapEntry ?_; intro stamp) | refine SL.W.entryStore ?_ | (refine SL.W.range ?_; intro it) | refine SL.W.delete ?_)) | (refine SL.TK.is ?_; first | refine SL.TK.seq ?_ | refine SL.TK.region ?_ | refine SL.TK.regionD SL.mixed (by simp only [SL.falses] <;> rfl) ?_ | refine SL.TK.block ?_ | refine SL.TK.inBlock ?_ | refine SL.TK.skip ?_ | refine SL.TK.scope ?_ | refine SL.TK.inScope ?_ | refine SL.TK.label ?_ | (refine SL.TK.isExit ?_; refine SL.W.exit ?_) | refine SL.W.condT ?_ | refine SL.W.condF ?_) | (refine SL.TD.is ?_; first | (refine SL.W.dfin ?_; simp only [SL.aps]) | refine SL.W.dpass ?_ | refine SL.W.dpure ?_ | refine SL.W.dload ?_ | refine SL.W.dloadA ?_ | refine SL.W.dfrz ?_ | (refine SL.W.dthaw ?_; simp only [SL.aps])) | ((first | refine SL.W.guardP (fun h => ?_) (fun h => ?_) | refine SL.W.condP (fun h => ?_) (fun h => ?_) | refine SL.W.dguardP (fun h => ?_) (fun h => ?_)) <;> (fail_if_success (have : h = trivial := rfl)) <;> (fail_if_success (have : h = not_false := rfl)) <;> first | contradiction | (exfalso; omega) | (exfalso; revert h; simp; done) | skip) | ((first | refine SL.W.guardB (fun h => ?_) (fun h => ?_) | refine SL.W.dguardB (fun h => ?_) (fun h => ?_)) <;> (fail_if_success (have : h = (rfl : true = true) := rfl)) <;> (fail_if_success (have : h = (rfl : false = false) := rfl))) | refine SL.W.condB (fun h => ?_) (fun h => ?_) | (refine SL.TD.is ?_; first | refine SL.W.done ?_ | refine SL.W.dtwo ?_ ?_ | refine SL.W.dthree ?_ ?_ ?_))
    exact SL.TK.retD Tryz.func39 (SL.Res.three rfl (by rfl) (by rfl) (by rfl)) ⟨none, 0, rfl, by simp, rfl⟩ (EntD.trans (EntD.of_ent (Ent.own_nil (e := 5) (sz := 1) Ent.refl)) (EntD.frm (pre := [SL.blk tb 124 [.map (some mb)], mp (Value.int .u32) mb l, RO g]) (by first | ((repeat (first | exact SL.Frm.nil | exact SL.Frm.refl | (apply SL.Frm.cons; repeat (first | exact SL.Pick.head | apply SL.Pick.tail)))); done) | fail) (tb_shut hV.out) (EntD.cons (by first | ((repeat (first | exact SL.Pick.head | apply SL.Pick.tail)); done) | fail) EntD.nil)))
  · rw [if_neg h0]
    cases hq : olk q T with
    | none =>
      simp only
      have hg := hv.none hq
      have h1 : Value.tuple [(get q l).getD (.agg [.int .u64 0, .slice none 0 0].toArray), .bool (get q l).isSome].toArray = .tuple [.agg [.int .u64 0, .slice none 0 0].toArray, .bool false].toArray := by rw [hg]; rfl
      have hH := Lib.hid h1
      clear h1 hg hq hv
      by_cases h16 : 16 ≤ T.length
      · rw [if_pos h16]
        repeat' (first | (refine SL.TO.is ?_; first | (refine SL.W.quick ?_; first | refine SL.W.pass ?_ | refine SL.W.pv ?_ | refine SL.W.pv0 ?_) | (refine SL.TO.door (o := ⟨_, .call _, _, _, _, _⟩) ?_; first | (refine SL.TO.door (o := ⟨_, .call ⟨.value (.func 60), _, _⟩, _, _, _, _⟩) ?_; first | (refine SL.W.call (tNone_spec _ _) ?_; rintro _ _ ⟨rfl, rfl⟩; try simp only [SL.aps]))) | (refine SL.TO.door (o := ⟨_, .lookup _ _ _ _, _, _, _, _⟩) ?_; first | (refine SL.W.lookupOk ?_; refine SL.TO.slot (d := 23) (by rfl) hH.out ?_)) | refine SL.TO.nil ?_ | (refine SL.TO.nilD ?_; simp only [SL.setB]) | refine SL.W.pass ?_ | refine SL.W.pass0 ?_ | (refine SL.W.pure ?_; first | refine SL.W.pv ?_ | refine SL.W.pv0 ?_ | refine SL.W.lenMp ?_) | (refine SL.W.loud ?_; first | refine SL.W.load ?_ | refine SL.W.loadA ?_ | refine SL.W.store ?_ | refine SL.W.storeA ?_ | (refine SL.W.box ?_; intro b) | (refine SL.W.alloc ?_; intro b) | (refine SL.W.buildSlice ?_; intro b) | (refine SL.W.append ?_; intro a cap) | refine SL.W.bytesToStr ?_ | refine SL.W.toIntC ?_ | (refine SL.W.makeSlice ?_; intro b) | refine SL.W.lookupOk ?_ | refine SL.W.lookup ?_ | (refine SL.W.makeMap ?_; intro b) | refine SL.W.mapUpdate ?_ | (refine SL.W.mapEntry ?_; intro stamp) | refine SL.W.entryStore ?_ | (refine SL.W.range ?_; intro it) | refine SL.W.delete ?_)) | (refine SL.TK.is ?_; first | refine SL.TK.seq ?_ | refine SL.TK.region ?_ | refine SL.TK.regionD SL.mixed (by simp only [SL.falses] <;> rfl) ?_ | refine SL.TK.block ?_ | refine SL.TK.inBlock ?_ | refine SL.TK.skip ?_ | refine SL.TK.scope ?_ | refine SL.TK.inScope ?_ | refine SL.TK.label ?_ | (refine SL.TK.isExit ?_; refine SL.W.exit ?_) | refine SL.W.condT ?_ | refine SL.W.condF ?_) | (refine SL.TD.is ?_; first | (refine SL.W.dfin ?_; simp only [SL.aps]) | refine SL.W.dpass ?_ | refine SL.W.dpure ?_ | refine SL.W.dload ?_ | refine SL.W.dloadA ?_ | refine SL.W.dfrz ?_ | (refine SL.W.dthaw ?_; simp only [SL.aps])) | ((first | refine SL.W.guardP (fun h => ?_) (fun h => ?_) | refine SL.W.condP (fun h => ?_) (fun h => ?_) | refine SL.W.dguardP (fun h => ?_) (fun h => ?_)) <;> (fail_if_success (have : h = trivial := rfl)) <;> (fail_if_success (have : h = not_false := rfl)) <;> first | contradiction | (exfalso; omega) | (exfalso; revert h; simp; done) | skip) | ((first | refine SL.W.guardB (fun h => ?_) (fun h => ?_) | refine SL.W.dguardB (fun h => ?_) (fun h => ?_)) <;> (fail_if_success (have : h = (rfl : true = true) := rfl)) <;> (fail_if_success (have : h = (rfl : false = false) := rfl))) | refine SL.W.condB (fun h => ?_) (fun h => ?_) | (refine SL.TD.is ?_; first | refine SL.W.done ?_ | refine SL.W.dtwo ?_ ?_ | refine SL.W.dthree ?_ ?_ ?_))
        exact SL.TK.retD Tryz.func39 (SL.Res.three rfl (by rfl) (by rfl) (by rfl)) ⟨none, 0, rfl, by simp, rfl⟩ (EntD.trans (EntD.of_ent (Ent.own_nil (e := 5) (sz := 1) Ent.refl)) (EntD.frm (pre := [SL.blk tb 124 [.map (some mb)], mp (Value.int .u32) mb l, RO g]) (by first | ((repeat (first | exact SL.Frm.nil | exact SL.Frm.refl | (apply SL.Frm.cons; repeat (first | exact SL.Pick.head | apply SL.Pick.tail)))); done) | fail) (tb_shut hV.out) (EntD.cons (by first | ((repeat (first | exact SL.Pick.head | apply SL.Pick.tail)); done) | fail) EntD.nil)))
      · rw [if_neg h16]
        repeat' (first | (refine SL.TO.is ?_; first | (refine SL.W.quick ?_; first | refine SL.W.pass ?_ | refine SL.W.pv ?_ | refine SL.W.pv0 ?_) | (refine SL.TO.door (o := ⟨_, .call _, _, _, _, _⟩) ?_; first | (refine SL.TO.door (o := ⟨_, .call ⟨.value (.func 60), _, _⟩, _, _, _, _⟩) ?_; first | (refine SL.W.call (tNone_spec _ _) ?_; rintro _ _ ⟨rfl, rfl⟩; try simp only [SL.aps]))) | (refine SL.TO.door (o := ⟨_, .lookup _ _ _ _, _, _, _, _⟩) ?_; first | (refine SL.W.lookupOk ?_; refine SL.TO.slot (d := 23) (by rfl) hH.out ?_)) | refine SL.TO.nil ?_ | (refine SL.TO.nilD ?_; simp only [SL.setB]) | refine SL.W.pass ?_ | refine SL.W.pass0 ?_ | (refine SL.W.pure ?_; first | refine SL.W.pv ?_ | refine SL.W.pv0 ?_ | refine SL.W.lenMp ?_) | (refine SL.W.loud ?_; first | refine SL.W.load ?_ | refine SL.W.loadA ?_ | refine SL.W.store ?_ | refine SL.W.storeA ?_ | (refine SL.W.box ?_; intro b) | (refine SL.W.alloc ?_; intro b) | (refine SL.W.buildSlice ?_; intro b) | (refine SL.W.append ?_; intro a cap) | refine SL.W.bytesToStr ?_ | refine SL.W.toIntC ?_ | (refine SL.W.makeSlice ?_; intro b) | refine SL.W.lookupOk ?_ | refine SL.W.lookup ?_ | (refine SL.W.makeMap ?_; intro b) | refine SL.W.mapUpdate ?_ | (refine SL.W.mapEntry ?_; intro stamp) | refine SL.W.entryStore ?_ | (refine SL.W.range ?_; intro it) | refine SL.W.delete ?_)) | (refine SL.TK.is ?_; first | refine SL.TK.seq ?_ | refine SL.TK.region ?_ | refine SL.TK.regionD SL.mixed (by simp only [SL.falses] <;> rfl) ?_ | refine SL.TK.block ?_ | refine SL.TK.inBlock ?_ | refine SL.TK.skip ?_ | refine SL.TK.scope ?_ | refine SL.TK.inScope ?_ | refine SL.TK.label ?_ | (refine SL.TK.isExit ?_; refine SL.W.exit ?_) | refine SL.W.condT ?_ | refine SL.W.condF ?_) | (refine SL.TD.is ?_; first | (refine SL.W.dfin ?_; simp only [SL.aps]) | refine SL.W.dpass ?_ | refine SL.W.dpure ?_ | refine SL.W.dload ?_ | refine SL.W.dloadA ?_ | refine SL.W.dfrz ?_ | (refine SL.W.dthaw ?_; simp only [SL.aps])) | ((first | refine SL.W.guardP (fun h => ?_) (fun h => ?_) | refine SL.W.condP (fun h => ?_) (fun h => ?_) | refine SL.W.dguardP (fun h => ?_) (fun h => ?_)) <;> (fail_if_success (have : h = trivial := rfl)) <;> (fail_if_success (have : h = not_false := rfl)) <;> first | contradiction | (exfalso; omega) | (exfalso; revert h; simp; done) | skip) | ((first | refine SL.W.guardB (fun h => ?_) (fun h => ?_) | refine SL.W.dguardB (fun h => ?_) (fun h => ?_)) <;> (fail_if_success (have : h = (rfl : true = true) := rfl)) <;> (fail_if_success (have : h = (rfl : false = false) := rfl))) | refine SL.W.condB (fun h => ?_) (fun h => ?_) | (refine SL.TD.is ?_; first | refine SL.W.done ?_ | refine SL.W.dtwo ?_ ?_ | refine SL.W.dthree ?_ ?_ ?_))
        exact SL.TK.retD Tryz.func39 (SL.Res.three rfl (by rfl) (by rfl) (by rfl)) ⟨none, 0, rfl, by simp, rfl⟩ (EntD.trans (EntD.of_ent (Ent.own_nil (e := 5) (sz := 1) Ent.refl)) (EntD.frm (pre := [SL.blk tb 124 [.map (some mb)], mp (Value.int .u32) mb l, RO g]) (by first | ((repeat (first | exact SL.Frm.nil | exact SL.Frm.refl | (apply SL.Frm.cons; repeat (first | exact SL.Pick.head | apply SL.Pick.tail)))); done) | fail) (tb_shut hV.out) (EntD.cons (by first | ((repeat (first | exact SL.Pick.head | apply SL.Pick.tail)); done) | fail) EntD.nil)))
    | some v =>
      simp only
      obtain ⟨a, c, hg, hr, hc⟩ := hv.val q v hq
      have h1 : Value.tuple [(get q l).getD (.agg [.int .u64 0, .slice none 0 0].toArray), .bool (get q l).isSome].toArray = .tuple [.agg [.int .u64 (v.1 : Int), .slice a v.2.length c].toArray, .bool true].toArray := by rw [hg]; rfl
      have hH := Lib.hid h1
      have hb := Lib.hid (bclone_spec (X := RO g) (a := a) (cap := c) (bs := v.2) (RdB.ro hr) (by have := hT.lk hq; omega))
      obtain ⟨n, bs⟩ := v
      simp only at hH hb ⊢
      clear h1 hg hq hr hc hv
      by_cases hlt : n < req
      · rw [if_pos hlt]
        repeat' (first | (refine SL.TO.is ?_; first | (refine SL.W.quick ?_; first | refine SL.W.pass ?_ | refine SL.W.pv ?_ | refine SL.W.pv0 ?_) | (refine SL.TO.door (o := ⟨_, .call _, _, _, _, _⟩) ?_; first | (refine SL.TO.door (o := ⟨_, .call ⟨.value (.func 60), _, _⟩, _, _, _, _⟩) ?_; first | (refine SL.W.call (tNone_spec _ _) ?_; rintro _ _ ⟨rfl, rfl⟩; try simp only [SL.aps]))) | (refine SL.TO.door (o := ⟨_, .lookup _ _ _ _, _, _, _, _⟩) ?_; first | (refine SL.W.lookupOk ?_; refine SL.TO.slot (d := 23) (by rfl) hH.out ?_)) | refine SL.TO.nil ?_ | (refine SL.TO.nilD ?_; simp only [SL.setB]) | refine SL.W.pass ?_ | refine SL.W.pass0 ?_ | (refine SL.W.pure ?_; first | refine SL.W.pv ?_ | refine SL.W.pv0 ?_ | refine SL.W.lenMp ?_) | (refine SL.W.loud ?_; first | refine SL.W.load ?_ | refine SL.W.loadA ?_ | refine SL.W.store ?_ | refine SL.W.storeA ?_ | (refine SL.W.box ?_; intro b) | (refine SL.W.alloc ?_; intro b) | (refine SL.W.buildSlice ?_; intro b) | (refine SL.W.append ?_; intro a cap) | refine SL.W.bytesToStr ?_ | refine SL.W.toIntC ?_ | (refine SL.W.makeSlice ?_; intro b) | refine SL.W.lookupOk ?_ | refine SL.W.lookup ?_ | (refine SL.W.makeMap ?_; intro b) | refine SL.W.mapUpdate ?_ | (refine SL.W.mapEntry ?_; intro stamp) | refine SL.W.entryStore ?_ | (refine SL.W.range ?_; intro it) | refine SL.W.delete ?_)) | (refine SL.TK.is ?_; first | refine SL.TK.seq ?_ | refine SL.TK.region ?_ | refine SL.TK.regionD SL.mixed (by simp only [SL.falses] <;> rfl) ?_ | refine SL.TK.block ?_ | refine SL.TK.inBlock ?_ | refine SL.TK.skip ?_ | refine SL.TK.scope ?_ | refine SL.TK.inScope ?_ | refine SL.TK.label ?_ | (refine SL.TK.isExit ?_; refine SL.W.exit ?_) | refine SL.W.condT ?_ | refine SL.W.condF ?_) | (refine SL.TD.is ?_; first | (refine SL.W.dfin ?_; simp only [SL.aps]) | refine SL.W.dpass ?_ | refine SL.W.dpure ?_ | refine SL.W.dload ?_ | refine SL.W.dloadA ?_ | refine SL.W.dfrz ?_ | (refine SL.W.dthaw ?_; simp only [SL.aps])) | ((first | refine SL.W.guardP (fun h => ?_) (fun h => ?_) | refine SL.W.condP (fun h => ?_) (fun h => ?_) | refine SL.W.dguardP (fun h => ?_) (fun h => ?_)) <;> (fail_if_success (have : h = trivial := rfl)) <;> (fail_if_success (have : h = not_false := rfl)) <;> first | contradiction | (exfalso; omega) | (exfalso; revert h; simp; done) | skip) | ((first | refine SL.W.guardB (fun h => ?_) (fun h => ?_) | refine SL.W.dguardB (fun h => ?_) (fun h => ?_)) <;> (fail_if_success (have : h = (rfl : true = true) := rfl)) <;> (fail_if_success (have : h = (rfl : false = false) := rfl))) | refine SL.W.condB (fun h => ?_) (fun h => ?_) | (refine SL.TD.is ?_; first | refine SL.W.done ?_ | refine SL.W.dtwo ?_ ?_ | refine SL.W.dthree ?_ ?_ ?_))
        exact SL.TK.retD Tryz.func39 (SL.Res.three rfl (by rfl) (by rfl) (by rfl)) ⟨none, 0, rfl, by simp, rfl⟩ (EntD.trans (EntD.of_ent (Ent.own_nil (e := 5) (sz := 1) Ent.refl)) (EntD.frm (pre := [SL.blk tb 124 [.map (some mb)], mp (Value.int .u32) mb l, RO g]) (by first | ((repeat (first | exact SL.Frm.nil | exact SL.Frm.refl | (apply SL.Frm.cons; repeat (first | exact SL.Pick.head | apply SL.Pick.tail)))); done) | fail) (tb_shut hV.out) (EntD.cons (by first | ((repeat (first | exact SL.Pick.head | apply SL.Pick.tail)); done) | fail) EntD.nil)))
      · rw [if_neg hlt]
        by_cases he : req = n
        · rw [if_pos he]
          have he2 : (req : Int) = n := by omega
          clear he
          repeat' (first | (refine SL.TO.is ?_; first | (refine SL.W.quick ?_; first | refine SL.W.pass ?_ | refine SL.W.pv ?_ | refine SL.W.pv0 ?_) | (refine SL.TO.door (o := ⟨_, .call _, _, _, _, _⟩) ?_; first | (refine SL.TO.door (o := ⟨_, .call ⟨.value (.func 60), _, _⟩, _, _, _, _⟩) ?_; first | (refine SL.W.call (tNone_spec _ _) ?_; rintro _ _ ⟨rfl, rfl⟩; try simp only [SL.aps])) | (refine SL.TO.door (o := ⟨_, .call ⟨.value (.func 22), _, _⟩, _, _, _, _⟩) ?_; first | (refine SL.W.call (hb.out) ?_; rintro _ _ ⟨a1, c1, rfl, ha1, rfl⟩; try simp only [SL.aps]))) | (refine SL.TO.door (o := ⟨_, .lookup _ _ _ _, _, _, _, _⟩) ?_; first | (refine SL.W.lookupOk ?_; refine SL.TO.slot (d := 23) (by rfl) hH.out ?_)) | refine SL.TO.nil ?_ | (refine SL.TO.nilD ?_; simp only [SL.setB]) | refine SL.W.pass ?_ | refine SL.W.pass0 ?_ | (refine SL.W.pure ?_; first | refine SL.W.pv ?_ | refine SL.W.pv0 ?_ | refine SL.W.lenMp ?_) | (refine SL.W.loud ?_; first | refine SL.W.load ?_ | refine SL.W.loadA ?_ | refine SL.W.store ?_ | refine SL.W.storeA ?_ | (refine SL.W.box ?_; intro b) | (refine SL.W.alloc ?_; intro b) | (refine SL.W.buildSlice ?_; intro b) | (refine SL.W.append ?_; intro a cap) | refine SL.W.bytesToStr ?_ | refine SL.W.toIntC ?_ | (refine SL.W.makeSlice ?_; intro b) | refine SL.W.lookupOk ?_ | refine SL.W.lookup ?_ | (refine SL.W.makeMap ?_; intro b) | refine SL.W.mapUpdate ?_ | (refine SL.W.mapEntry ?_; intro stamp) | refine SL.W.entryStore ?_ | (refine SL.W.range ?_; intro it) | refine SL.W.delete ?_)) | (refine SL.TK.is ?_; first | refine SL.TK.seq ?_ | refine SL.TK.region ?_ | refine SL.TK.regionD SL.mixed (by simp only [SL.falses] <;> rfl) ?_ | refine SL.TK.block ?_ | refine SL.TK.inBlock ?_ | refine SL.TK.skip ?_ | refine SL.TK.scope ?_ | refine SL.TK.inScope ?_ | refine SL.TK.label ?_ | (refine SL.TK.isExit ?_; refine SL.W.exit ?_) | refine SL.W.condT ?_ | refine SL.W.condF ?_) | (refine SL.TD.is ?_; first | (refine SL.W.dfin ?_; simp only [SL.aps]) | refine SL.W.dpass ?_ | refine SL.W.dpure ?_ | refine SL.W.dload ?_ | refine SL.W.dloadA ?_ | refine SL.W.dfrz ?_ | (refine SL.W.dthaw ?_; simp only [SL.aps])) | ((first | refine SL.W.guardP (fun h => ?_) (fun h => ?_) | refine SL.W.condP (fun h => ?_) (fun h => ?_) | refine SL.W.dguardP (fun h => ?_) (fun h => ?_)) <;> (fail_if_success (have : h = trivial := rfl)) <;> (fail_if_success (have : h = not_false := rfl)) <;> first | contradiction | (exfalso; omega) | (exfalso; revert h; simp; done) | skip) | ((first | refine SL.W.guardB (fun h => ?_) (fun h => ?_) | refine SL.W.dguardB (fun h => ?_) (fun h => ?_)) <;> (fail_if_success (have : h = (rfl : true = true) := rfl)) <;> (fail_if_success (have : h = (rfl : false = false) := rfl))) | refine SL.W.condB (fun h => ?_) (fun h => ?_) | (refine SL.TD.is ?_; first | refine SL.W.done ?_ | refine SL.W.dtwo ?_ ?_ | refine SL.W.dthree ?_ ?_ ?_))
          exact SL.TK.retD Tryz.func39 (SL.Res.three rfl (by rfl) (by rfl) (by rfl)) ⟨a1, c1, rfl, ha1, rfl⟩ (EntD.frm (pre := [SL.blk tb 124 [.map (some mb)], mp (Value.int .u32) mb l, RO g]) (by first | ((repeat (first | exact SL.Frm.nil | exact SL.Frm.refl | (apply SL.Frm.cons; repeat (first | exact SL.Pick.head | apply SL.Pick.tail)))); done) | fail) (tb_shut hV.out) (EntD.cons (by first | ((repeat (first | exact SL.Pick.head | apply SL.Pick.tail)); done) | fail) EntD.nil))
        · rw [if_neg he]
          have he2 : ¬ (req : Int) = n := by omega
          repeat' (first | (refine SL.TO.is ?_; first | (refine SL.W.quick ?_; first | refine SL.W.pass ?_ | refine SL.W.pv ?_ | refine SL.W.pv0 ?_) | (refine SL.TO.door (o := ⟨_, .call _, _, _, _, _⟩) ?_; first | (refine SL.TO.door (o := ⟨_, .call ⟨.value (.func 60), _, _⟩, _, _, _, _⟩) ?_; first | (refine SL.W.call (tNone_spec _ _) ?_; rintro _ _ ⟨rfl, rfl⟩; try simp only [SL.aps]))) | (refine SL.TO.door (o := ⟨_, .lookup _ _ _ _, _, _, _, _⟩) ?_; first | (refine SL.W.lookupOk ?_; refine SL.TO.slot (d := 23) (by rfl) hH.out ?_)) | refine SL.TO.nil ?_ | (refine SL.TO.nilD ?_; simp only [SL.setB]) | refine SL.W.pass ?_ | refine SL.W.pass0 ?_ | (refine SL.W.pure ?_; first | refine SL.W.pv ?_ | refine SL.W.pv0 ?_ | refine SL.W.lenMp ?_) | (refine SL.W.loud ?_; first | refine SL.W.load ?_ | refine SL.W.loadA ?_ | refine SL.W.store ?_ | refine SL.W.storeA ?_ | (refine SL.W.box ?_; intro b) | (refine SL.W.alloc ?_; intro b) | (refine SL.W.buildSlice ?_; intro b) | (refine SL.W.append ?_; intro a cap) | refine SL.W.bytesToStr ?_ | refine SL.W.toIntC ?_ | (refine SL.W.makeSlice ?_; intro b) | refine SL.W.lookupOk ?_ | refine SL.W.lookup ?_ | (refine SL.W.makeMap ?_; intro b) | refine SL.W.mapUpdate ?_ | (refine SL.W.mapEntry ?_; intro stamp) | refine SL.W.entryStore ?_ | (refine SL.W.range ?_; intro it) | refine SL.W.delete ?_)) | (refine SL.TK.is ?_; first | refine SL.TK.seq ?_ | refine SL.TK.region ?_ | refine SL.TK.regionD SL.mixed (by simp only [SL.falses] <;> rfl) ?_ | refine SL.TK.block ?_ | refine SL.TK.inBlock ?_ | refine SL.TK.skip ?_ | refine SL.TK.scope ?_ | refine SL.TK.inScope ?_ | refine SL.TK.label ?_ | (refine SL.TK.isExit ?_; refine SL.W.exit ?_) | refine SL.W.condT ?_ | refine SL.W.condF ?_) | (refine SL.TD.is ?_; first | (refine SL.W.dfin ?_; simp only [SL.aps]) | refine SL.W.dpass ?_ | refine SL.W.dpure ?_ | refine SL.W.dload ?_ | refine SL.W.dloadA ?_ | refine SL.W.dfrz ?_ | (refine SL.W.dthaw ?_; simp only [SL.aps])) | ((first | refine SL.W.guardP (fun h => ?_) (fun h => ?_) | refine SL.W.condP (fun h => ?_) (fun h => ?_) | refine SL.W.dguardP (fun h => ?_) (fun h => ?_)) <;> (fail_if_success (have : h = trivial := rfl)) <;> (fail_if_success (have : h = not_false := rfl)) <;> first | contradiction | (exfalso; omega) | (exfalso; revert h; simp; done) | skip) | ((first | refine SL.W.guardB (fun h => ?_) (fun h => ?_) | refine SL.W.dguardB (fun h => ?_) (fun h => ?_)) <;> (fail_if_success (have : h = (rfl : true = true) := rfl)) <;> (fail_if_success (have : h = (rfl : false = false) := rfl))) | refine SL.W.condB (fun h => ?_) (fun h => ?_) | (refine SL.TD.is ?_; first | refine SL.W.done ?_ | refine SL.W.dtwo ?_ ?_ | refine SL.W.dthree ?_ ?_ ?_))
          exact SL.TK.retD Tryz.func39 (SL.Res.three rfl (by rfl) (by rfl) (by rfl)) ⟨none, 0, rfl, by simp, rfl⟩ (EntD.trans (EntD.of_ent (Ent.own_nil (e := 5) (sz := 1) Ent.refl)) (EntD.frm (pre := [SL.blk tb 124 [.map (some mb)], mp (Value.int .u32) mb l, RO g]) (by first | ((repeat (first | exact SL.Frm.nil | exact SL.Frm.refl | (apply SL.Frm.cons; repeat (first | exact SL.Pick.head | apply SL.Pick.tail)))); done) | fail) (tb_shut hV.out) (EntD.cons (by first | ((repeat (first | exact SL.Pick.head | apply SL.Pick.tail)); done) | fail) EntD.nil)))
theorem tSet_spec {X : HProp} {a : Option Addr} {cap : Nat} {x : List UInt8} (hb : RdB X a x) (hx : x.length ≤ 1000000000000) (tb : Nat) (T : OT) (hT : TOk T) (q : Int) (req : Nat) :
    Spec Tryz.prog 44 [.pointer (some ⟨tb, 0, none⟩), .int .u32 q, .int .u64 req, .slice a x.length cap] [TbAt tb T, X]
    (fun r L => r = .int .i64 (setR T q req x).1 ∧ L = [TbAt tb (setR T q req x).2, X]) := by
  have hA := Lib.hid (tAsk_spec tb T hT q req)
  have hc := Lib.hid (bclone_spec (cap := cap) hb hx)
  clear hb
  unfold setR
  obtain ⟨A, hAe⟩ : ∃ A, A = askR T q req := ⟨_, rfl⟩
  rw [← hAe] at hA ⊢
  obtain ⟨w, bs, e⟩ := A
  simp only at hA ⊢
  clear hAe
  refine SL.Spec.of_TK Go.Proofs.Tryz.func44 rfl rfl SL.call44 rfl ?_
  by_cases he0 : e = 0
  · rw [if_neg (by omega)]
    by_cases hw0 : w = 0
    · rw [if_neg (by omega)]
      by_cases hl0 : 1048576 < x.length
      · rw [if_pos hl0]
        repeat' (first | (refine SL.TO.is ?_; first | (refine SL.W.quick ?_; first | refine SL.W.pass ?_ | refine SL.W.pv ?_ | refine SL.W.pv0 ?_) | (refine SL.TO.door (o := ⟨_, .call _, _, _, _, _⟩) ?_; first | (refine SL.TO.door (o := ⟨_, .call ⟨.value (.func 39), _, _⟩, _, _, _, _⟩) ?_; first | (refine SL.W.call (hA.out) ?_; rintro _ _ ⟨a1, c1, rfl, ha1, rfl⟩; try simp only [SL.aps]))) | refine SL.TO.nil ?_ | (refine SL.TO.nilD ?_; simp only [SL.setB]) | refine SL.W.pass ?_ | refine SL.W.pass0 ?_ | (refine SL.W.pure ?_; first | refine SL.W.pv ?_ | refine SL.W.pv0 ?_ | refine SL.W.lenMp ?_) | (refine SL.W.loud ?_; first | refine SL.W.load ?_ | refine SL.W.loadA ?_ | refine SL.W.store ?_ | refine SL.W.storeA ?_ | (refine SL.W.box ?_; intro b) | (refine SL.W.alloc ?_; intro b) | (refine SL.W.buildSlice ?_; intro b) | (refine SL.W.append ?_; intro a cap) | refine SL.W.bytesToStr ?_ | refine SL.W.toIntC ?_ | (refine SL.W.makeSlice ?_; intro b) | refine SL.W.lookupOk ?_ | refine SL.W.lookup ?_ | (refine SL.W.makeMap ?_; intro b) | refine SL.W.mapUpdate ?_ | (refine SL.W.mapEntry ?_; intro stamp) | refine SL.W.entryStore ?_ | (refine SL.W.range ?_; intro it) | refine SL.W.delete ?_)) | (refine SL.TK.is ?_; first | refine SL.TK.seq ?_ | refine SL.TK.region ?_ | refine SL.TK.regionD SL.mixed (by simp only [SL.falses] <;> rfl) ?_ | refine SL.TK.block ?_ | refine SL.TK.inBlock ?_ | refine SL.TK.skip ?_ | refine SL.TK.scope ?_ | refine SL.TK.inScope ?_ | refine SL.TK.label ?_ | (refine SL.TK.isExit ?_; refine SL.W.exit ?_) | refine SL.W.condT ?_ | refine SL.W.condF ?_) | (refine SL.TD.is ?_; first | (refine SL.W.dfin ?_; simp only [SL.aps]) | refine SL.W.dpass ?_ | refine SL.W.dpure ?_ | refine SL.W.dload ?_ | refine SL.W.dloadA ?_ | refine SL.W.dfrz ?_ | (refine SL.W.dthaw ?_; simp only [SL.aps])) | ((first | refine SL.W.guardP (fun h => ?_) (fun h => ?_) | refine SL.W.condP (fun h => ?_) (fun h => ?_) | refine SL.W.dguardP (fun h => ?_) (fun h => ?_)) <;> (fail_if_success (have : h = trivial := rfl)) <;> (fail_if_success (have : h = not_false := rfl)) <;> first | contradiction | (exfalso; omega) | (exfalso; revert h; simp; done) | skip) | ((first | refine SL.W.guardB (fun h => ?_) (fun h => ?_) | refine SL.W.dguardB (fun h => ?_) (fun h => ?_)) <;> (fail_if_success (have : h = (rfl : true = true) := rfl)) <;> (fail_if_success (have : h = (rfl : false = false) := rfl))) | refine SL.W.condB (fun h => ?_) (fun h => ?_) | (refine SL.TD.is ?_; first | refine SL.W.done ?_ | refine SL.W.dtwo ?_ ?_ | refine SL.W.dthree ?_ ?_ ?_))
        exact SL.TK.retD Tryz.func44 (SL.Res.one rfl (by rfl)) ⟨rfl, rfl⟩ (EntD.cons (by first | ((repeat (first | exact SL.Pick.head | apply SL.Pick.tail)); done) | fail) (EntD.cons (by first | ((repeat (first | exact SL.Pick.head | apply SL.Pick.tail)); done) | fail) EntD.nil))
      · rw [if_neg hl0]
        repeat' (first | (refine SL.TO.is ?_; first | (refine SL.W.quick ?_; first | refine SL.W.pass ?_ | refine SL.W.pv ?_ | refine SL.W.pv0 ?_) | (refine SL.TO.door (o := ⟨_, .call _, _, _, _, _⟩) ?_; first | (refine SL.TO.door (o := ⟨_, .call ⟨.value (.func 39), _, _⟩, _, _, _, _⟩) ?_; first | ((refine SL.W.call (hA.out) ?_; rintro _ _ ⟨a1, c1, rfl, ha1, rfl⟩; try simp only [SL.aps]); clear hA)) | (refine SL.TO.door (o := ⟨_, .call ⟨.value (.func 22), _, _⟩, _, _, _, _⟩) ?_; first | (refine SL.W.call (hc.out) ?_; rintro _ _ ⟨a2, c2, rfl, ha2, rfl⟩; try simp only [SL.aps]))) | refine SL.TO.nil ?_ | (refine SL.TO.nilD ?_; simp only [SL.setB]) | refine SL.W.pass ?_ | refine SL.W.pass0 ?_ | (refine SL.W.pure ?_; first | refine SL.W.pv ?_ | refine SL.W.pv0 ?_ | refine SL.W.lenMp ?_) | (refine SL.W.loud ?_; first | refine SL.W.load ?_ | refine SL.W.loadA ?_ | refine SL.W.store ?_ | refine SL.W.storeA ?_ | (refine SL.W.box ?_; intro b) | (refine SL.W.alloc ?_; intro b) | (refine SL.W.buildSlice ?_; intro b) | (refine SL.W.append ?_; intro a cap) | refine SL.W.bytesToStr ?_ | refine SL.W.toIntC ?_ | (refine SL.W.makeSlice ?_; intro b) | refine SL.W.lookupOk ?_ | refine SL.W.lookup ?_ | (refine SL.W.makeMap ?_; intro b) | refine SL.W.mapUpdate ?_ | (refine SL.W.mapEntry ?_; intro stamp) | refine SL.W.entryStore ?_ | (refine SL.W.range ?_; intro it) | refine SL.W.delete ?_)) | (refine SL.TK.is ?_; first | ((fail_if_success have := hA); refine SL.TK.openTb (by first | ((repeat (first | exact SL.Pick.head | apply SL.Pick.tail)); done) | fail) (fun mb l g hv hn => ?_); have hV := Lib.hid hv; clear hv hn) | refine SL.TK.seq ?_ | refine SL.TK.region ?_ | refine SL.TK.regionD SL.mixed (by simp only [SL.falses] <;> rfl) ?_ | refine SL.TK.block ?_ | refine SL.TK.inBlock ?_ | refine SL.TK.skip ?_ | refine SL.TK.scope ?_ | refine SL.TK.inScope ?_ | refine SL.TK.label ?_ | (refine SL.TK.isExit ?_; refine SL.W.exit ?_) | refine SL.W.condT ?_ | refine SL.W.condF ?_) | (refine SL.TD.is ?_; first | (refine SL.W.dfin ?_; simp only [SL.aps]) | refine SL.W.dpass ?_ | refine SL.W.dpure ?_ | refine SL.W.dload ?_ | refine SL.W.dloadA ?_ | refine SL.W.dfrz ?_ | (refine SL.W.dthaw ?_; simp only [SL.aps])) | ((first | refine SL.W.guardP (fun h => ?_) (fun h => ?_) | refine SL.W.condP (fun h => ?_) (fun h => ?_) | refine SL.W.dguardP (fun h => ?_) (fun h => ?_)) <;> (fail_if_success (have : h = trivial := rfl)) <;> (fail_if_success (have : h = not_false := rfl)) <;> first | contradiction | (exfalso; omega) | (exfalso; revert h; simp; done) | skip) | ((first | refine SL.W.guardB (fun h => ?_) (fun h => ?_) | refine SL.W.dguardB (fun h => ?_) (fun h => ?_)) <;> (fail_if_success (have : h = (rfl : true = true) := rfl)) <;> (fail_if_success (have : h = (rfl : false = false) := rfl))) | refine SL.W.condB (fun h => ?_) (fun h => ?_) | (refine SL.TD.is ?_; first | refine SL.W.done ?_ | refine SL.W.dtwo ?_ ?_ | refine SL.W.dthree ?_ ?_ ?_))
        all_goals
          refine SL.TK.freeze (e := 5) (sz := 1) (a := a2) (g := g) (by first | ((repeat (first | exact SL.Frm.nil | exact SL.Frm.refl | (apply SL.Frm.cons; repeat (first | exact SL.Pick.head | apply SL.Pick.tail)))); done) | fail) (fun g' hg hr hle => ?_)
          exact SL.TK.retD Tryz.func44 (SL.Res.one rfl (by rfl)) ⟨rfl, rfl⟩ (EntD.frm (by first | ((repeat (first | exact SL.Frm.nil | exact SL.Frm.refl | (apply SL.Frm.cons; repeat (first | exact SL.Pick.head | apply SL.Pick.tail)))); done) | fail) (tb_shut ((hV.out.le hg).ins (q := q) (v := (req, x)) hr hle)) (EntD.cons (by first | ((repeat (first | exact SL.Pick.head | apply SL.Pick.tail)); done) | fail) EntD.nil))
    · rw [if_pos hw0]
      repeat' (first | (refine SL.TO.is ?_; first | (refine SL.W.quick ?_; first | refine SL.W.pass ?_ | refine SL.W.pv ?_ | refine SL.W.pv0 ?_) | (refine SL.TO.door (o := ⟨_, .call _, _, _, _, _⟩) ?_; first | (refine SL.TO.door (o := ⟨_, .call ⟨.value (.func 39), _, _⟩, _, _, _, _⟩) ?_; first | (refine SL.W.call (hA.out) ?_; rintro _ _ ⟨a1, c1, rfl, ha1, rfl⟩; try simp only [SL.aps]))) | refine SL.TO.nil ?_ | (refine SL.TO.nilD ?_; simp only [SL.setB]) | refine SL.W.pass ?_ | refine SL.W.pass0 ?_ | (refine SL.W.pure ?_; first | refine SL.W.pv ?_ | refine SL.W.pv0 ?_ | refine SL.W.lenMp ?_) | (refine SL.W.loud ?_; first | refine SL.W.load ?_ | refine SL.W.loadA ?_ | refine SL.W.store ?_ | refine SL.W.storeA ?_ | (refine SL.W.box ?_; intro b) | (refine SL.W.alloc ?_; intro b) | (refine SL.W.buildSlice ?_; intro b) | (refine SL.W.append ?_; intro a cap) | refine SL.W.bytesToStr ?_ | refine SL.W.toIntC ?_ | (refine SL.W.makeSlice ?_; intro b) | refine SL.W.lookupOk ?_ | refine SL.W.lookup ?_ | (refine SL.W.makeMap ?_; intro b) | refine SL.W.mapUpdate ?_ | (refine SL.W.mapEntry ?_; intro stamp) | refine SL.W.entryStore ?_ | (refine SL.W.range ?_; intro it) | refine SL.W.delete ?_)) | (refine SL.TK.is ?_; first | refine SL.TK.seq ?_ | refine SL.TK.region ?_ | refine SL.TK.regionD SL.mixed (by simp only [SL.falses] <;> rfl) ?_ | refine SL.TK.block ?_ | refine SL.TK.inBlock ?_ | refine SL.TK.skip ?_ | refine SL.TK.scope ?_ | refine SL.TK.inScope ?_ | refine SL.TK.label ?_ | (refine SL.TK.isExit ?_; refine SL.W.exit ?_) | refine SL.W.condT ?_ | refine SL.W.condF ?_) | (refine SL.TD.is ?_; first | (refine SL.W.dfin ?_; simp only [SL.aps]) | refine SL.W.dpass ?_ | refine SL.W.dpure ?_ | refine SL.W.dload ?_ | refine SL.W.dloadA ?_ | refine SL.W.dfrz ?_ | (refine SL.W.dthaw ?_; simp only [SL.aps])) | ((first | refine SL.W.guardP (fun h => ?_) (fun h => ?_) | refine SL.W.condP (fun h => ?_) (fun h => ?_) | refine SL.W.dguardP (fun h => ?_) (fun h => ?_)) <;> (fail_if_success (have : h = trivial := rfl)) <;> (fail_if_success (have : h = not_false := rfl)) <;> first | contradiction | (exfalso; omega) | (exfalso; revert h; simp; done) | skip) | ((first | refine SL.W.guardB (fun h => ?_) (fun h => ?_) | refine SL.W.dguardB (fun h => ?_) (fun h => ?_)) <;> (fail_if_success (have : h = (rfl : true = true) := rfl)) <;> (fail_if_success (have : h = (rfl : false = false) := rfl))) | refine SL.W.condB (fun h => ?_) (fun h => ?_) | (refine SL.TD.is ?_; first | refine SL.W.done ?_ | refine SL.W.dtwo ?_ ?_ | refine SL.W.dthree ?_ ?_ ?_))
      exact SL.TK.retD Tryz.func44 (SL.Res.one rfl (by rfl)) ⟨rfl, rfl⟩ (EntD.cons (by first | ((repeat (first | exact SL.Pick.head | apply SL.Pick.tail)); done) | fail) (EntD.cons (by first | ((repeat (first | exact SL.Pick.head | apply SL.Pick.tail)); done) | fail) EntD.nil))
  · rw [if_pos he0]
    repeat' (first | (refine SL.TO.is ?_; first | (refine SL.W.quick ?_; first | refine SL.W.pass ?_ | refine SL.W.pv ?_ | refine SL.W.pv0 ?_) | (refine SL.TO.door (o := ⟨_, .call _, _, _, _, _⟩) ?_; first | (refine SL.TO.door (o := ⟨_, .call ⟨.value (.func 39), _, _⟩, _, _, _, _⟩) ?_; first | (refine SL.W.call (hA.out) ?_; rintro _ _ ⟨a1, c1, rfl, ha1, rfl⟩; try simp only [SL.aps]))) | refine SL.TO.nil ?_ | (refine SL.TO.nilD ?_; simp only [SL.setB]) | refine SL.W.pass ?_ | refine SL.W.pass0 ?_ | (refine SL.W.pure ?_; first | refine SL.W.pv ?_ | refine SL.W.pv0 ?_ | refine SL.W.lenMp ?_) | (refine SL.W.loud ?_; first | refine SL.W.load ?_ | refine SL.W.loadA ?_ | refine SL.W.store ?_ | refine SL.W.storeA ?_ | (refine SL.W.box ?_; intro b) | (refine SL.W.alloc ?_; intro b) | (refine SL.W.buildSlice ?_; intro b) | (refine SL.W.append ?_; intro a cap) | refine SL.W.bytesToStr ?_ | refine SL.W.toIntC ?_ | (refine SL.W.makeSlice ?_; intro b) | refine SL.W.lookupOk ?_ | refine SL.W.lookup ?_ | (refine SL.W.makeMap ?_; intro b) | refine SL.W.mapUpdate ?_ | (refine SL.W.mapEntry ?_; intro stamp) | refine SL.W.entryStore ?_ | (refine SL.W.range ?_; intro it) | refine SL.W.delete ?_)) | (refine SL.TK.is ?_; first | refine SL.TK.seq ?_ | refine SL.TK.region ?_ | refine SL.TK.regionD SL.mixed (by simp only [SL.falses] <;> rfl) ?_ | refine SL.TK.block ?_ | refine SL.TK.inBlock ?_ | refine SL.TK.skip ?_ | refine SL.TK.scope ?_ | refine SL.TK.inScope ?_ | refine SL.TK.label ?_ | (refine SL.TK.isExit ?_; refine SL.W.exit ?_) | refine SL.W.condT ?_ | refine SL.W.condF ?_) | (refine SL.TD.is ?_; first | (refine SL.W.dfin ?_; simp only [SL.aps]) | refine SL.W.dpass ?_ | refine SL.W.dpure ?_ | refine SL.W.dload ?_ | refine SL.W.dloadA ?_ | refine SL.W.dfrz ?_ | (refine SL.W.dthaw ?_; simp only [SL.aps])) | ((first | refine SL.W.guardP (fun h => ?_) (fun h => ?_) | refine SL.W.condP (fun h => ?_) (fun h => ?_) | refine SL.W.dguardP (fun h => ?_) (fun h => ?_)) <;> (fail_if_success (have : h = trivial := rfl)) <;> (fail_if_success (have : h = not_false := rfl)) <;> first | contradiction | (exfalso; omega) | (exfalso; revert h; simp; done) | skip) | ((first | refine SL.W.guardB (fun h => ?_) (fun h => ?_) | refine SL.W.dguardB (fun h => ?_) (fun h => ?_)) <;> (fail_if_success (have : h = (rfl : true = true) := rfl)) <;> (fail_if_success (have : h = (rfl : false = false) := rfl))) | refine SL.W.condB (fun h => ?_) (fun h => ?_) | (refine SL.TD.is ?_; first | refine SL.W.done ?_ | refine SL.W.dtwo ?_ ?_ | refine SL.W.dthree ?_ ?_ ?_))
    exact SL.TK.retD Tryz.func44 (SL.Res.one rfl (by rfl)) ⟨rfl, rfl⟩ (EntD.cons (by first | ((repeat (first | exact SL.Pick.head | apply SL.Pick.tail)); done) | fail) (EntD.cons (by first | ((repeat (first | exact SL.Pick.head | apply SL.Pick.tail)); done) | fail) EntD.nil))
def clI (tb mb it : Nat) (l : List (Int × Value)) (g : Hp) (ρ : Env) (L : List HProp) (m : Nat) : Prop := ∃ (ks : List Int) (a' : Option Addr) (c' : Nat), ks.Nodup ∧ (∀ q ∈ ks, q ∈ l.map (·.1)) ∧
  ρ = [(3, .slice a' ks.length c'), (11, .pointer (some ⟨it, 0, none⟩))] ∧ L = [SL.blk tb 124 [.map (some mb)], mpI (Value.int .u32) mb l (some (it, ks.reverse)), RO g, own 32 1 a' ks.length c' (ks.map iv)] ∧ m = l.countP (fun p => !ks.reverse.contains p.1)
theorem sort12 (a : Option Addr) (cap : Nat) (xs : List Int) (hx : xs.length ≤ 12) :
    Spec Tryz.prog 110 [.slice a xs.length cap] [own 32 1 a xs.length cap (xs.map iv)] (fun r L => r = .tuple #[] ∧ L = [own 32 1 a xs.length cap ((srt xs).map iv)]) :=
  sort_of 12 (by omega) (fun bk cap lim ex xs h1 h2 h3 h4 => pdq_small bk xs.length cap 0 xs.length lim ex xs rfl h2 (by omega) (by omega) (by omega) (by omega)) a cap xs hx
theorem tClients_spec (tb : Nat) (T : OT) (hT : TOk T) (h12 : T.length ≤ 12) : Spec Tryz.prog 78 [.pointer (some ⟨tb, 0, none⟩)] [TbAt tb T]
    (fun r L => ∃ a c, r = .slice a T.length c ∧ (a = none → T = []) ∧ L = [TbAt tb T, own 32 1 a T.length c ((T.map (·.1)).map iv)]) := by
  refine SL.Spec.of_TK Go.Proofs.Tryz.func78 rfl rfl SL.call78 rfl ?_
  refine SL.TK.openTb (by first | ((repeat (first | exact SL.Pick.head | apply SL.Pick.tail)); done) | fail) (fun mb l g hv hn => ?_)
  have hlen := hv.len hn hT.rise
  have h16 := hT.len
  have hV := Lib.hid hv
  have hN := Lib.hid hn
  have hR := Lib.hid hT.rise
  clear hv hn hT
  refine SL.TK.entD (EntD.of_ent (Ent.own_nil (e := 32) (sz := 1) Ent.refl)) ?_
  repeat' (first | (refine SL.TO.is ?_; first | (refine SL.W.quick ?_; first | refine SL.W.pass ?_ | refine SL.W.pv ?_ | refine SL.W.pv0 ?_) | (refine SL.TO.door (o := ⟨_, .call _, _, _, _, _⟩) ?_; first | (refine SL.TO.door (o := ⟨_, .call ⟨.value (.func 60), _, _⟩, _, _, _, _⟩) ?_; first | (refine SL.W.call (tNone_spec _ _) ?_; rintro _ _ ⟨rfl, rfl⟩; try simp only [SL.aps]))) | refine SL.TO.nil ?_ | (refine SL.TO.nilD ?_; simp only [SL.setB]) | refine SL.W.pass ?_ | refine SL.W.pass0 ?_ | (refine SL.W.pure ?_; first | refine SL.W.pv ?_ | refine SL.W.pv0 ?_ | refine SL.W.lenMp ?_) | (refine SL.W.loud ?_; first | refine SL.W.load ?_ | refine SL.W.loadA ?_ | refine SL.W.store ?_ | refine SL.W.storeA ?_ | (refine SL.W.box ?_; intro b) | (refine SL.W.alloc ?_; intro b) | (refine SL.W.buildSlice ?_; intro b) | (refine SL.W.append ?_; intro a cap) | refine SL.W.bytesToStr ?_ | refine SL.W.toIntC ?_ | (refine SL.W.makeSlice ?_; intro b) | refine SL.W.lookupOk ?_ | refine SL.W.lookup ?_ | (refine SL.W.makeMap ?_; intro b) | refine SL.W.mapUpdate ?_ | (refine SL.W.mapEntry ?_; intro stamp) | refine SL.W.entryStore ?_ | (refine SL.W.range ?_; intro it) | refine SL.W.delete ?_)) | (refine SL.TK.lp ?_; first | (refine SL.TK.block ?_; refine SL.TK.loopD (clI tb mb it l g) ?_ ⟨[], none, 0, List.nodup_nil, by simp, rfl, rfl, rfl⟩ (by first | ((repeat (first | exact SL.Sub.nil | refine SL.Sub.cons (by rfl) (by first | rfl | exact SL.int_eq (by omega)) ?_)); done) | fail) (EntD.cons (by first | ((repeat (first | exact SL.Pick.head | apply SL.Pick.tail)); done) | fail) (EntD.cons (by first | ((repeat (first | exact SL.Pick.head | apply SL.Pick.tail)); done) | fail) (EntD.cons (by first | ((repeat (first | exact SL.Pick.head | apply SL.Pick.tail)); done) | fail) (EntD.cons (by first | ((repeat (first | exact SL.Pick.head | apply SL.Pick.tail)); done) | fail) EntD.nil)))))) | (refine SL.TK.is ?_; first | refine SL.TK.seq ?_ | refine SL.TK.region ?_ | refine SL.TK.regionD SL.mixed (by simp only [SL.falses] <;> rfl) ?_ | refine SL.TK.block ?_ | refine SL.TK.inBlock ?_ | refine SL.TK.skip ?_ | refine SL.TK.scope ?_ | refine SL.TK.inScope ?_ | refine SL.TK.label ?_ | (refine SL.TK.isExit ?_; refine SL.W.exit ?_) | refine SL.W.condT ?_ | refine SL.W.condF ?_) | (refine SL.TD.is ?_; first | (refine SL.W.dfin ?_; simp only [SL.aps]) | refine SL.W.dpass ?_ | refine SL.W.dpure ?_ | refine SL.W.dload ?_ | refine SL.W.dloadA ?_ | refine SL.W.dfrz ?_ | (refine SL.W.dthaw ?_; simp only [SL.aps])) | ((first | refine SL.W.guardP (fun h => ?_) (fun h => ?_) | refine SL.W.condP (fun h => ?_) (fun h => ?_) | refine SL.W.dguardP (fun h => ?_) (fun h => ?_)) <;> (fail_if_success (have : h = trivial := rfl)) <;> (fail_if_success (have : h = not_false := rfl)) <;> first | contradiction | (exfalso; omega) | (exfalso; revert h; simp; done) | skip) | ((first | refine SL.W.guardB (fun h => ?_) (fun h => ?_) | refine SL.W.dguardB (fun h => ?_) (fun h => ?_)) <;> (fail_if_success (have : h = (rfl : true = true) := rfl)) <;> (fail_if_success (have : h = (rfl : false = false) := rfl))) | refine SL.W.condB (fun h => ?_) (fun h => ?_) | (refine SL.TD.is ?_; first | refine SL.W.done ?_ | refine SL.W.dtwo ?_ ?_ | refine SL.W.dthree ?_ ?_ ?_))
  rintro ρ L m ⟨ks, a', c', hnd, hin, rfl, rfl, rfl⟩ ih
  have hle : ks.length ≤ l.length := by
    have := len_le_of hnd hin
    simpa using this
  have hI := Lib.hid (And.intro hnd hin)
  clear hnd hin
  repeat' (first | intro q v hqv hqd | intro hend | (refine SL.TO.is ?_; first | refine SL.W.next ?_ ?_ | refine SL.W.entry ?_ | (refine SL.W.quick ?_; first | refine SL.W.pass ?_ | refine SL.W.pv ?_ | refine SL.W.pv0 ?_) | (refine SL.TO.door (o := ⟨_, .call _, _, _, _, _⟩) ?_; first | (refine SL.TO.door (o := ⟨_, .call ⟨.value (.func 110), _, _⟩, _, _, _, _⟩) ?_; first | (refine SL.W.call (sort12 a' c' ks (by omega)) ?_; rintro _ _ ⟨rfl, rfl⟩; try simp only [SL.aps]))) | refine SL.TO.nil ?_ | (refine SL.TO.nilD ?_; simp only [SL.setB]) | refine SL.W.pass ?_ | refine SL.W.pass0 ?_ | (refine SL.W.pure ?_; first | refine SL.W.pv ?_ | refine SL.W.pv0 ?_ | refine SL.W.lenMp ?_) | (refine SL.W.loud ?_; first | refine SL.W.load ?_ | refine SL.W.loadA ?_ | refine SL.W.store ?_ | refine SL.W.storeA ?_ | (refine SL.W.box ?_; intro b) | (refine SL.W.alloc ?_; intro b) | (refine SL.W.buildSlice ?_; intro b) | (refine SL.W.append ?_; intro a cap) | refine SL.W.bytesToStr ?_ | refine SL.W.toIntC ?_ | (refine SL.W.makeSlice ?_; intro b) | refine SL.W.lookupOk ?_ | refine SL.W.lookup ?_ | (refine SL.W.makeMap ?_; intro b) | refine SL.W.mapUpdate ?_ | (refine SL.W.mapEntry ?_; intro stamp) | refine SL.W.entryStore ?_ | (refine SL.W.range ?_; intro it) | refine SL.W.delete ?_)) | (refine SL.TK.is ?_; first | refine SL.TK.seq ?_ | refine SL.TK.region ?_ | refine SL.TK.regionD SL.mixed (by simp only [SL.falses] <;> rfl) ?_ | refine SL.TK.block ?_ | refine SL.TK.inBlock ?_ | refine SL.TK.skip ?_ | refine SL.TK.scope ?_ | refine SL.TK.inScope ?_ | refine SL.TK.label ?_ | (refine SL.TK.isExit ?_; refine SL.W.exit ?_) | refine SL.W.condT ?_ | refine SL.W.condF ?_) | (refine SL.TD.is ?_; first | (refine SL.W.dfin ?_; simp only [SL.aps]) | refine SL.W.dpass ?_ | refine SL.W.dpure ?_ | refine SL.W.dload ?_ | refine SL.W.dloadA ?_ | refine SL.W.dfrz ?_ | (refine SL.W.dthaw ?_; simp only [SL.aps])) | ((first | refine SL.W.guardP (fun h => ?_) (fun h => ?_) | refine SL.W.condP (fun h => ?_) (fun h => ?_) | refine SL.W.dguardP (fun h => ?_) (fun h => ?_)) <;> (fail_if_success (have : h = trivial := rfl)) <;> (fail_if_success (have : h = not_false := rfl)) <;> first | contradiction | (exfalso; omega) | (exfalso; revert h; simp; done) | skip) | ((first | refine SL.W.guardB (fun h => ?_) (fun h => ?_) | refine SL.W.dguardB (fun h => ?_) (fun h => ?_)) <;> (fail_if_success (have : h = (rfl : true = true) := rfl)) <;> (fail_if_success (have : h = (rfl : false = false) := rfl))) | refine SL.W.condB (fun h => ?_) (fun h => ?_) | (refine SL.TD.is ?_; first | refine SL.W.done ?_ | refine SL.W.dtwo ?_ ?_ | refine SL.W.dthree ?_ ?_ ?_))
  · have hm : ∀ q, q ∈ ks ↔ q ∈ l.map (·.1) := fun q => ⟨hI.out.2 q, fun h => by
      obtain ⟨p, hp, rfl⟩ := List.mem_map.1 h
      have := hend p hp
      simpa using this⟩
    have hs := hV.out.srt hI.out.1 hm hR.out
    have hkl : ks.length = T.length := by
      have := congrArg List.length hs
      simpa [srt_length] using this
    rw [hs, hkl]
    refine SL.TK.ownFact (e := 32) (sz := 1) (by first | ((repeat (first | exact SL.Pick.head | apply SL.Pick.tail)); done) | fail) (fun hn0 => ?_)
    exact SL.TK.retD Tryz.func78 (SL.Res.one rfl (by rfl)) ⟨a', c', rfl, fun h => by simpa using hn0 h, rfl⟩ (EntD.trans (B := [mpI (Value.int .u32) mb l (some (it, ks.reverse)), SL.blk tb 124 [.map (some mb)], RO g, own 32 1 a' T.length c' ((T.map (·.1)).map iv)]) (EntD.cons (by first | ((repeat (first | exact SL.Pick.head | apply SL.Pick.tail)); done) | fail) (EntD.cons (by first | ((repeat (first | exact SL.Pick.head | apply SL.Pick.tail)); done) | fail) (EntD.cons (by first | ((repeat (first | exact SL.Pick.head | apply SL.Pick.tail)); done) | fail) (EntD.cons (by first | ((repeat (first | exact SL.Pick.head | apply SL.Pick.tail)); done) | fail) EntD.nil)))) (EntD.trans mpI_done (EntD.frm (pre := [SL.blk tb 124 [.map (some mb)], mp (Value.int .u32) mb l, RO g]) (by first | ((repeat (first | exact SL.Frm.nil | exact SL.Frm.refl | (apply SL.Frm.cons; repeat (first | exact SL.Pick.head | apply SL.Pick.tail)))); done) | fail) (tb_shut hV.out) (EntD.cons (by first | ((repeat (first | exact SL.Pick.head | apply SL.Pick.tail)); done) | fail) EntD.nil))))
  · have hqd' : q ∉ ks := by simpa using hqd
    refine SL.TK.againD ih ⟨ks ++ [q], a, cap, ?_, ?_, rfl, rfl, rfl⟩ ?_ ?_ ?_
    · rw [List.nodup_append]
      exact ⟨hI.out.1, by simp, fun x hx y hy e => by simp at hy; subst hy; subst e; exact hqd' hx⟩
    · intro x hx
      rcases List.mem_append.1 hx with hx | hx
      · exact hI.out.2 x hx
      · simp at hx
        subst hx
        exact List.mem_map.2 ⟨_, hqv, rfl⟩
    · have e1 : (ks ++ [q]).length = ks.length + 1 := by simp
      rw [e1]
      exact (by first | ((repeat (first | exact SL.Sub.nil | refine SL.Sub.cons (by rfl) (by first | rfl | exact SL.int_eq (by omega)) ?_)); done) | fail)
    · have e1 : (ks ++ [q]).length = ks.length + 1 := by simp
      have e2 : (ks ++ [q]).reverse = q :: ks.reverse := by simp
      have e3 : (ks ++ [q]).map iv = ks.map iv ++ [.int .u32 q] := by simp [iv]
      rw [e1, e2, e3]
      exact EntD.cons (by first | ((repeat (first | exact SL.Pick.head | apply SL.Pick.tail)); done) | fail) (EntD.cons (by first | ((repeat (first | exact SL.Pick.head | apply SL.Pick.tail)); done) | fail) (EntD.cons (by first | ((repeat (first | exact SL.Pick.head | apply SL.Pick.tail)); done) | fail) (EntD.cons (by first | ((repeat (first | exact SL.Pick.head | apply SL.Pick.tail)); done) | fail) EntD.nil)))
    · have e2 : (ks ++ [q]).reverse = q :: ks.reverse := by simp
      rw [e2]
      exact flt_lt hqv hqd
end SL
end
section
set_option linter.unusedVariables false
set_option linter.unusedSimpArgs false
set_option maxRecDepth 10000
namespace SL
open Go Go.Proofs Go.RowKit
section
variable {P : Program} {fid : Fm} {n : Nat} {post : Post} {k : List Item} {ρ : Env} {L r : List HProp}
theorem TK.mkWr {wb : Nat} (hp : Pick L (SL.blk wb 71 [.slice none 0 0]) r) (h : TK P fid n post k ρ (WrAt wb [] :: r)) : TK P fid n post k ρ L :=
  TK.entD (EntD.trans (EntD.of_ent (Ent.own_nil (e := 5) (sz := 1) Ent.refl)) (EntD.frm (Frm.cons (Pick.tail hp) (Frm.cons Pick.head Frm.nil)) (fun h x => wr_shut (bs := []) h x) EntD.refl)) h
end
attribute [local irreducible] SL.TK SL.TO SL.TD SL.PV SL.Pick SL.Frm SL.Ent SL.Sub SL.EvAll SL.seps SL.sep SL.Cut SL.PutAt SL.blk SL.EvP SL.Fill SL.Src SL.EntD SL.own SL.ex SL.fact SL.orig
def tb1 (p : Int × OV) : List UInt8 := putN p.1.toNat ++ putN p.2.1 ++ putN p.2.2.length ++ p.2.2
theorem tbs_eq (T : OT) : tbs T = putN T.length ++ T.flatMap tb1 := rfl
theorem tb1_len {p : Int × OV} (h : p.2.2.length ≤ 1048576) : (tb1 p).length ≤ 1048606 := by
  have h1 := (putN_len p.1.toNat).2
  have h2 := (putN_len p.2.1).2
  have h3 := (putN_len p.2.2.length).2
  simp [tb1]; omega
theorem fl_len : ∀ {T : OT}, (∀ p ∈ T, p.2.2.length ≤ 1048576) → (T.flatMap tb1).length ≤ T.length * 1048606
  | [], _ => by simp
  | p :: T, h => by
    have h1 := tb1_len (h p (List.mem_cons_self ..))
    have h2 := fl_len (T := T) fun x hx => h x (List.mem_cons_of_mem _ hx)
    simp only [List.flatMap_cons, List.length_append, List.length_cons]
    omega
theorem tbs_len {T : OT} (hT : TOk T) : (tbs T).length ≤ 20000000 := by
  have h1 := fl_len fun p hp => (hT.all p hp).2.2.2
  have h2 := hT.len
  have h3 := (putN_len T.length).2
  rw [tbs_eq, List.length_append]
  omega
theorem olk_at {T : OT} (h : ORise T) {i : Nat} (hi : i < T.length) : olk T[i].1 T = some T[i].2 := by
  induction T generalizing i with
  | nil => simp at hi
  | cons p T ih =>
    have h' : (∀ x ∈ T.map (·.1), p.1 < x) ∧ ORise T := by simpa only [ORise, List.map_cons, List.pairwise_cons] using h
    cases i with
    | zero => simp [olk]
    | succ i =>
      have hi' : i < T.length := by simpa using hi
      have hlt := h'.1 T[i].1 (List.mem_map.2 ⟨_, List.getElem_mem hi', rfl⟩)
      simp only [List.getElem_cons_succ, olk]
      rw [if_neg (by omega)]
      exact ih h'.2 hi'
def byI (tb mb wb b0 c0 : Nat) (l : List (Int × Value)) (g : Hp) (T : OT) (ex : List Value) (ρ : Env) (L : List HProp) (m : Nat) : Prop := ∃ (i : Nat) (bs : List UInt8), i ≤ T.length ∧ bs = putN T.length ++ (T.take i).flatMap tb1 ∧
  ρ = [(0, .pointer (some ⟨tb, 0, none⟩)), (3, .pointer (some ⟨wb, 0, none⟩)), (15, .slice (some ⟨b0, 0, none⟩) T.length c0), (16, .int .i64 T.length), (17, .int .i64 i)] ∧
  L = [SL.blk tb 124 [.map (some mb)], mp (Value.int .u32) mb l, RO g, SL.blk b0 32 ((T.map (·.1)).map iv ++ ex), WrAt wb bs] ∧ m = T.length - i
theorem tBytes_spec (tb : Nat) (T : OT) (hT : TOk T) (h12 : T.length ≤ 12) : Spec Tryz.prog 53 [.pointer (some ⟨tb, 0, none⟩)] [TbAt tb T]
    (fun r L => ∃ a c, r = .slice a (tbs T).length c ∧ (a = none → tbs T = []) ∧ L = [TbAt tb T, own 5 1 a (tbs T).length c ((tbs T).map byteV)]) := by
  have hcl := Lib.hid (tClients_spec tb T hT h12)
  have h16 := hT.len
  have hwn := Lib.hid fun (wb : Nat) => wNum_spec wb [] (by simp) T.length (by omega)
  have hout := Lib.hid fun (wb : Nat) => wOut_spec wb (tbs T) (by have := tbs_len hT; omega)
  refine SL.Spec.of_TK Go.Proofs.Tryz.func53 rfl rfl SL.call53 rfl ?_
  simp only [List.nil_append] at hwn
  by_cases h0 : T.length = 0
  · have he : T = [] := List.eq_nil_of_length_eq_zero h0
    subst he
    have e0 : putN ([] : OT).length = tbs [] := by simp [tbs]
    rw [e0] at hwn
    clear h0 h16 e0
    repeat' (first | (refine SL.TO.is ?_; first | (refine SL.W.quick ?_; first | refine SL.W.pass ?_ | refine SL.W.pv ?_ | refine SL.W.pv0 ?_) | (refine SL.TO.door (o := ⟨_, .call _, _, _, _, _⟩) ?_; first | (refine SL.TO.door (o := ⟨_, .call ⟨.value (.func 60), _, _⟩, _, _, _, _⟩) ?_; first | (refine SL.W.call (tNone_spec _ _) ?_; rintro _ _ ⟨rfl, rfl⟩; try simp only [SL.aps])) | (refine SL.TO.door (o := ⟨_, .call ⟨.value (.func 78), _, _⟩, _, _, _, _⟩) ?_; first | (refine SL.TO.entD (EntD.frm (pre := [SL.blk tb 124 [.map (some mb)], mp (Value.int .u32) mb l, RO g]) (by first | ((repeat (first | exact SL.Frm.nil | exact SL.Frm.refl | (apply SL.Frm.cons; repeat (first | exact SL.Pick.head | apply SL.Pick.tail)))); done) | fail) (tb_shut hV.out) EntD.refl) ?_; (refine SL.W.call (hcl.out) ?_; rintro _ _ ⟨a1, c1, rfl, ha1, rfl⟩; try simp only [SL.aps]); clear hcl)) | (refine SL.TO.door (o := ⟨_, .call ⟨.value (.func 35), _, _⟩, _, _, _, _⟩) ?_; first | (refine SL.W.call (hwn.out _) ?_; rintro _ _ ⟨rfl, rfl⟩; try simp only [SL.aps])) | (refine SL.TO.door (o := ⟨_, .call ⟨.value (.func 37), _, _⟩, _, _, _, _⟩) ?_; first | (refine SL.W.call (hout.out _) ?_; rintro _ _ ⟨a2, c2, rfl, ha2, rfl⟩; try simp only [SL.aps]))) | refine SL.TO.nil ?_ | (refine SL.TO.nilD ?_; simp only [SL.setB]) | refine SL.W.pass ?_ | refine SL.W.pass0 ?_ | (refine SL.W.pure ?_; first | refine SL.W.pv ?_ | refine SL.W.pv0 ?_ | refine SL.W.lenMp ?_) | (refine SL.W.loud ?_; first | refine SL.W.load ?_ | refine SL.W.loadA ?_ | refine SL.W.store ?_ | refine SL.W.storeA ?_ | (refine SL.W.box ?_; intro b) | (refine SL.W.alloc ?_; intro b) | (refine SL.W.buildSlice ?_; intro b) | (refine SL.W.append ?_; intro a cap) | refine SL.W.bytesToStr ?_ | refine SL.W.toIntC ?_ | (refine SL.W.makeSlice ?_; intro b) | refine SL.W.lookupOk ?_ | refine SL.W.lookup ?_ | (refine SL.W.makeMap ?_; intro b) | refine SL.W.mapUpdate ?_ | (refine SL.W.mapEntry ?_; intro stamp) | refine SL.W.entryStore ?_ | (refine SL.W.range ?_; intro it) | refine SL.W.delete ?_)) | (refine SL.TK.lp ?_; first | (refine SL.TK.block ?_; refine SL.TK.loopD (fun ρ L m => ρ = [(0, .pointer (some ⟨tb, 0, none⟩)), (3, .pointer (some ⟨b, 0, none⟩)), (16, .int .i64 0), (17, .int .i64 0)] ∧ L = [TbAt tb [], WrAt b (tbs [])] ∧ m = 0) ?_ (m0 := 0) ⟨rfl, rfl, rfl⟩ (by first | ((repeat (first | exact SL.Sub.nil | refine SL.Sub.cons (by rfl) (by first | rfl | exact SL.int_eq (by omega)) ?_)); done) | fail) (EntD.cons (by first | ((repeat (first | exact SL.Pick.head | apply SL.Pick.tail)); done) | fail) (EntD.cons (by first | ((repeat (first | exact SL.Pick.head | apply SL.Pick.tail)); done) | fail) EntD.nil)))) | (refine SL.TK.is ?_; first | refine SL.TK.mkWr (by first | ((repeat (first | exact SL.Pick.head | apply SL.Pick.tail)); done) | fail) ?_ | ((fail_if_success have := hV); refine SL.TK.openTb (by first | ((repeat (first | exact SL.Pick.head | apply SL.Pick.tail)); done) | fail) (fun mb l g hv hn => ?_); have hV := Lib.hid hv; clear hv hn) | refine SL.TK.seq ?_ | refine SL.TK.region ?_ | refine SL.TK.regionD SL.mixed (by simp only [SL.falses] <;> rfl) ?_ | refine SL.TK.block ?_ | refine SL.TK.inBlock ?_ | refine SL.TK.skip ?_ | refine SL.TK.scope ?_ | refine SL.TK.inScope ?_ | refine SL.TK.label ?_ | (refine SL.TK.isExit ?_; refine SL.W.exit ?_) | refine SL.W.condT ?_ | refine SL.W.condF ?_) | (refine SL.TD.is ?_; first | (refine SL.W.dfin ?_; simp only [SL.aps]) | refine SL.W.dpass ?_ | refine SL.W.dpure ?_ | refine SL.W.dload ?_ | refine SL.W.dloadA ?_ | refine SL.W.dfrz ?_ | (refine SL.W.dthaw ?_; simp only [SL.aps])) | ((first | refine SL.W.guardP (fun h => ?_) (fun h => ?_) | refine SL.W.condP (fun h => ?_) (fun h => ?_) | refine SL.W.dguardP (fun h => ?_) (fun h => ?_)) <;> (fail_if_success (have : h = trivial := rfl)) <;> (fail_if_success (have : h = not_false := rfl)) <;> first | contradiction | (exfalso; omega) | (exfalso; revert h; simp; done) | skip) | ((first | refine SL.W.guardB (fun h => ?_) (fun h => ?_) | refine SL.W.dguardB (fun h => ?_) (fun h => ?_)) <;> (fail_if_success (have : h = (rfl : true = true) := rfl)) <;> (fail_if_success (have : h = (rfl : false = false) := rfl))) | refine SL.W.condB (fun h => ?_) (fun h => ?_) | (refine SL.TD.is ?_; first | refine SL.W.done ?_ | refine SL.W.dtwo ?_ ?_ | refine SL.W.dthree ?_ ?_ ?_))
    rintro ρ L m ⟨rfl, rfl, rfl⟩ ih
    clear ih
    repeat' (first | (refine SL.TO.is ?_; first | (refine SL.W.quick ?_; first | refine SL.W.pass ?_ | refine SL.W.pv ?_ | refine SL.W.pv0 ?_) | (refine SL.TO.door (o := ⟨_, .call _, _, _, _, _⟩) ?_; first | (refine SL.TO.door (o := ⟨_, .call ⟨.value (.func 37), _, _⟩, _, _, _, _⟩) ?_; first | (refine SL.W.call (hout.out _) ?_; rintro _ _ ⟨a2, c2, rfl, ha2, rfl⟩; try simp only [SL.aps]))) | refine SL.TO.nil ?_ | (refine SL.TO.nilD ?_; simp only [SL.setB]) | refine SL.W.pass ?_ | refine SL.W.pass0 ?_ | (refine SL.W.pure ?_; first | refine SL.W.pv ?_ | refine SL.W.pv0 ?_ | refine SL.W.lenMp ?_) | (refine SL.W.loud ?_; first | refine SL.W.load ?_ | refine SL.W.loadA ?_ | refine SL.W.store ?_ | refine SL.W.storeA ?_ | (refine SL.W.box ?_; intro b) | (refine SL.W.alloc ?_; intro b) | (refine SL.W.buildSlice ?_; intro b) | (refine SL.W.append ?_; intro a cap) | refine SL.W.bytesToStr ?_ | refine SL.W.toIntC ?_ | (refine SL.W.makeSlice ?_; intro b) | refine SL.W.lookupOk ?_ | refine SL.W.lookup ?_ | (refine SL.W.makeMap ?_; intro b) | refine SL.W.mapUpdate ?_ | (refine SL.W.mapEntry ?_; intro stamp) | refine SL.W.entryStore ?_ | (refine SL.W.range ?_; intro it) | refine SL.W.delete ?_)) | (refine SL.TK.is ?_; first | refine SL.TK.seq ?_ | refine SL.TK.region ?_ | refine SL.TK.regionD SL.mixed (by simp only [SL.falses] <;> rfl) ?_ | refine SL.TK.block ?_ | refine SL.TK.inBlock ?_ | refine SL.TK.skip ?_ | refine SL.TK.scope ?_ | refine SL.TK.inScope ?_ | refine SL.TK.label ?_ | (refine SL.TK.isExit ?_; refine SL.W.exit ?_) | refine SL.W.condT ?_ | refine SL.W.condF ?_) | (refine SL.TD.is ?_; first | (refine SL.W.dfin ?_; simp only [SL.aps]) | refine SL.W.dpass ?_ | refine SL.W.dpure ?_ | refine SL.W.dload ?_ | refine SL.W.dloadA ?_ | refine SL.W.dfrz ?_ | (refine SL.W.dthaw ?_; simp only [SL.aps])) | ((first | refine SL.W.guardP (fun h => ?_) (fun h => ?_) | refine SL.W.condP (fun h => ?_) (fun h => ?_) | refine SL.W.dguardP (fun h => ?_) (fun h => ?_)) <;> (fail_if_success (have : h = trivial := rfl)) <;> (fail_if_success (have : h = not_false := rfl)) <;> first | contradiction | (exfalso; omega) | (exfalso; revert h; simp; done) | skip) | ((first | refine SL.W.guardB (fun h => ?_) (fun h => ?_) | refine SL.W.dguardB (fun h => ?_) (fun h => ?_)) <;> (fail_if_success (have : h = (rfl : true = true) := rfl)) <;> (fail_if_success (have : h = (rfl : false = false) := rfl))) | refine SL.W.condB (fun h => ?_) (fun h => ?_) | (refine SL.TD.is ?_; first | refine SL.W.done ?_ | refine SL.W.dtwo ?_ ?_ | refine SL.W.dthree ?_ ?_ ?_))
    exact SL.TK.retD Tryz.func53 (SL.Res.one rfl (by rfl)) ⟨a2, c2, rfl, ha2, rfl⟩ (EntD.cons (by first | ((repeat (first | exact SL.Pick.head | apply SL.Pick.tail)); done) | fail) (EntD.cons (by first | ((repeat (first | exact SL.Pick.head | apply SL.Pick.tail)); done) | fail) EntD.nil))
  · repeat' (first | (refine SL.TO.is ?_; first | (refine SL.W.quick ?_; first | refine SL.W.pass ?_ | refine SL.W.pv ?_ | refine SL.W.pv0 ?_) | (refine SL.TO.door (o := ⟨_, .call _, _, _, _, _⟩) ?_; first | (refine SL.TO.door (o := ⟨_, .call ⟨.value (.func 60), _, _⟩, _, _, _, _⟩) ?_; first | (refine SL.W.call (tNone_spec _ _) ?_; rintro _ _ ⟨rfl, rfl⟩; try simp only [SL.aps])) | (refine SL.TO.door (o := ⟨_, .call ⟨.value (.func 78), _, _⟩, _, _, _, _⟩) ?_; first | (refine SL.TO.entD (EntD.frm (pre := [SL.blk tb 124 [.map (some mb)], mp (Value.int .u32) mb l, RO g]) (by first | ((repeat (first | exact SL.Frm.nil | exact SL.Frm.refl | (apply SL.Frm.cons; repeat (first | exact SL.Pick.head | apply SL.Pick.tail)))); done) | fail) (tb_shut hV.out) EntD.refl) ?_; (refine SL.W.call (hcl.out) ?_; rintro _ _ ⟨a1, c1, rfl, ha1, rfl⟩; try simp only [SL.aps]); clear hcl hV)) | (refine SL.TO.door (o := ⟨_, .call ⟨.value (.func 35), _, _⟩, _, _, _, _⟩) ?_; first | (refine SL.W.call (hwn.out _) ?_; rintro _ _ ⟨rfl, rfl⟩; try simp only [SL.aps]))) | refine SL.TO.nil ?_ | (refine SL.TO.nilD ?_; simp only [SL.setB]) | refine SL.W.pass ?_ | refine SL.W.pass0 ?_ | (refine SL.W.pure ?_; first | refine SL.W.pv ?_ | refine SL.W.pv0 ?_ | refine SL.W.lenMp ?_) | (refine SL.W.loud ?_; first | refine SL.W.load ?_ | refine SL.W.loadA ?_ | refine SL.W.store ?_ | refine SL.W.storeA ?_ | (refine SL.W.box ?_; intro b) | (refine SL.W.alloc ?_; intro b) | (refine SL.W.buildSlice ?_; intro b) | (refine SL.W.append ?_; intro a cap) | refine SL.W.bytesToStr ?_ | refine SL.W.toIntC ?_ | (refine SL.W.makeSlice ?_; intro b) | refine SL.W.lookupOk ?_ | refine SL.W.lookup ?_ | (refine SL.W.makeMap ?_; intro b) | refine SL.W.mapUpdate ?_ | (refine SL.W.mapEntry ?_; intro stamp) | refine SL.W.entryStore ?_ | (refine SL.W.range ?_; intro it) | refine SL.W.delete ?_)) | (refine SL.TK.lp ?_; first | (refine SL.TK.block ?_; refine SL.TK.ownPos (e := 32) (sz := 1) (a := a1) (by first | ((repeat (first | exact SL.Pick.head | apply SL.Pick.tail)); done) | fail) (by omega) (fun b0 ex ea e1 e2 e3 => ?_); subst ea; refine SL.TK.loopD (byI tb mb b b0 c1 l g T ex) ?_ ⟨0, putN T.length, Nat.zero_le _, by simp, rfl, rfl, rfl⟩ (by first | ((repeat (first | exact SL.Sub.nil | refine SL.Sub.cons (by rfl) (by first | rfl | exact SL.int_eq (by omega)) ?_)); done) | fail) (EntD.cons (by first | ((repeat (first | exact SL.Pick.head | apply SL.Pick.tail)); done) | fail) (EntD.cons (by first | ((repeat (first | exact SL.Pick.head | apply SL.Pick.tail)); done) | fail) (EntD.cons (by first | ((repeat (first | exact SL.Pick.head | apply SL.Pick.tail)); done) | fail) (EntD.cons (by first | ((repeat (first | exact SL.Pick.head | apply SL.Pick.tail)); done) | fail) (EntD.cons (by first | ((repeat (first | exact SL.Pick.head | apply SL.Pick.tail)); done) | fail) EntD.nil))))))) | (refine SL.TK.is ?_; first | refine SL.TK.mkWr (by first | ((repeat (first | exact SL.Pick.head | apply SL.Pick.tail)); done) | fail) ?_ | ((fail_if_success have := hV); refine SL.TK.openTb (by first | ((repeat (first | exact SL.Pick.head | apply SL.Pick.tail)); done) | fail) (fun mb l g hv hn => ?_); have hV := Lib.hid hv; clear hv hn) | refine SL.TK.seq ?_ | refine SL.TK.region ?_ | refine SL.TK.regionD SL.mixed (by simp only [SL.falses] <;> rfl) ?_ | refine SL.TK.block ?_ | refine SL.TK.inBlock ?_ | refine SL.TK.skip ?_ | refine SL.TK.scope ?_ | refine SL.TK.inScope ?_ | refine SL.TK.label ?_ | (refine SL.TK.isExit ?_; refine SL.W.exit ?_) | refine SL.W.condT ?_ | refine SL.W.condF ?_) | (refine SL.TD.is ?_; first | (refine SL.W.dfin ?_; simp only [SL.aps]) | refine SL.W.dpass ?_ | refine SL.W.dpure ?_ | refine SL.W.dload ?_ | refine SL.W.dloadA ?_ | refine SL.W.dfrz ?_ | (refine SL.W.dthaw ?_; simp only [SL.aps])) | ((first | refine SL.W.guardP (fun h => ?_) (fun h => ?_) | refine SL.W.condP (fun h => ?_) (fun h => ?_) | refine SL.W.dguardP (fun h => ?_) (fun h => ?_)) <;> (fail_if_success (have : h = trivial := rfl)) <;> (fail_if_success (have : h = not_false := rfl)) <;> first | contradiction | (exfalso; omega) | (exfalso; revert h; simp; done) | skip) | ((first | refine SL.W.guardB (fun h => ?_) (fun h => ?_) | refine SL.W.dguardB (fun h => ?_) (fun h => ?_)) <;> (fail_if_success (have : h = (rfl : true = true) := rfl)) <;> (fail_if_success (have : h = (rfl : false = false) := rfl))) | refine SL.W.condB (fun h => ?_) (fun h => ?_) | (refine SL.TD.is ?_; first | refine SL.W.done ?_ | refine SL.W.dtwo ?_ ?_ | refine SL.W.dthree ?_ ?_ ?_))
    clear e1 e2 h0 ha1
    rintro ρ L m ⟨i, bs, hi, hbs, rfl, rfl, rfl⟩ ih
    have hBS := Lib.hid hbs
    have hbl : bs.length ≤ 20000000 := by
      have h1 : ((T.take i).flatMap tb1).length ≤ (T.take i).length * 1048606 := fl_len fun p hp => (hT.all p (List.mem_of_mem_take hp)).2.2.2
      have h3 := (putN_len T.length).2
      rw [hbs, List.length_append]
      simp only [List.length_take] at h1
      omega
    clear hbs
    by_cases hlt : i < T.length
    · have hlk := olk_at hT.rise hlt
      have hall := hT.all _ (List.getElem_mem hlt)
      have htk : T.take (i + 1) = T.take i ++ [T[i]] := by rw [List.take_add_one, List.getElem?_eq_getElem hlt]; rfl
      have hnn := nth_ints (xs := T.map (·.1)) (ex := ex) (i := i) (by simpa using hlt)
      have hni : nat_ (T.map (·.1)) i = T[i].1 := by rw [← nat_eq (by simpa using hlt)]; simp
      rw [hni] at hnn
      obtain ⟨p, hp⟩ : ∃ p, p = T[i] := ⟨_, rfl⟩
      rw [← hp] at hlk hall htk hnn
      obtain ⟨q, v⟩ := p
      simp only at hlk hall hnn
      obtain ⟨a, c, hg, hr, hc⟩ := hV.out.val q v hlk
      obtain ⟨n, cs⟩ := v
      simp only at hall hr hc hg
      unfold iv at hnn
      have h1 : (get q l).getD (.agg [.int .u64 0, .slice none 0 0].toArray) = .agg [.int .u64 (n : Int), .slice a cs.length c].toArray := by rw [hg]; rfl
      have hH := Lib.hid h1
      obtain ⟨k, hk⟩ : ∃ k : Nat, q = (k : Int) := ⟨q.toNat, by omega⟩
      subst hk
      have w1 := Lib.hid (wNum_spec b bs (by omega) k (by omega))
      have l1 := (putN_len k).2
      have l2 := (putN_len n).2
      have w2 := Lib.hid (wNum_spec b (bs ++ putN k) (by simp; omega) n (by omega))
      have w3 := Lib.hid (wBytes_spec (X := RO g) (a := a) (cap := c) (cs := cs) (RdB.ro hr) b (bs ++ putN k ++ putN n) (by simp; omega) (by omega))
      have hT2 := Lib.hid htk
      clear h1 hg hr hlk htk hp hni
      repeat' (first | (refine SL.TO.is ?_; first | (refine SL.W.quick ?_; first | refine SL.W.pass ?_ | refine SL.W.pv ?_ | refine SL.W.pv0 ?_) | (refine SL.TO.door (o := ⟨_, .call _, _, _, _, _⟩) ?_; first | (refine SL.TO.door (o := ⟨_, .call ⟨.value (.func 35), _, _⟩, _, _, _, _⟩) ?_; first | (first | (refine SL.W.call (w1.out) ?_; rintro _ _ ⟨rfl, rfl⟩; try simp only [SL.aps]) | (refine SL.W.call (w2.out) ?_; rintro _ _ ⟨rfl, rfl⟩; try simp only [SL.aps]))) | (refine SL.TO.door (o := ⟨_, .call ⟨.value (.func 32), _, _⟩, _, _, _, _⟩) ?_; first | (refine SL.W.call (w3.out) ?_; rintro _ _ ⟨rfl, rfl⟩; try simp only [SL.aps]))) | (refine SL.TO.door (o := ⟨_, .load _ _, _, _, _, _⟩) ?_; first | refine SL.W.loadN hnn ?_) | (refine SL.TO.door (o := ⟨_, .lookup _ _ _ _, _, _, _, _⟩) ?_; first | (refine SL.W.lookup ?_; (first | refine SL.TO.slot (d := 29) (by rfl) hH.out ?_ | refine SL.TO.slot (d := 37) (by rfl) hH.out ?_))) | refine SL.TO.nil ?_ | (refine SL.TO.nilD ?_; simp only [SL.setB]) | refine SL.W.pass ?_ | refine SL.W.pass0 ?_ | (refine SL.W.pure ?_; first | refine SL.W.pv ?_ | refine SL.W.pv0 ?_ | refine SL.W.lenMp ?_) | (refine SL.W.loud ?_; first | refine SL.W.load ?_ | refine SL.W.loadA ?_ | refine SL.W.store ?_ | refine SL.W.storeA ?_ | (refine SL.W.box ?_; intro b) | (refine SL.W.alloc ?_; intro b) | (refine SL.W.buildSlice ?_; intro b) | (refine SL.W.append ?_; intro a cap) | refine SL.W.bytesToStr ?_ | refine SL.W.toIntC ?_ | (refine SL.W.makeSlice ?_; intro b) | refine SL.W.lookupOk ?_ | refine SL.W.lookup ?_ | (refine SL.W.makeMap ?_; intro b) | refine SL.W.mapUpdate ?_ | (refine SL.W.mapEntry ?_; intro stamp) | refine SL.W.entryStore ?_ | (refine SL.W.range ?_; intro it) | refine SL.W.delete ?_)) | (refine SL.TK.is ?_; first | refine SL.TK.seq ?_ | refine SL.TK.region ?_ | refine SL.TK.regionD SL.mixed (by simp only [SL.falses] <;> rfl) ?_ | refine SL.TK.block ?_ | refine SL.TK.inBlock ?_ | refine SL.TK.skip ?_ | refine SL.TK.scope ?_ | refine SL.TK.inScope ?_ | refine SL.TK.label ?_ | (refine SL.TK.isExit ?_; refine SL.W.exit ?_) | refine SL.W.condT ?_ | refine SL.W.condF ?_) | (refine SL.TD.is ?_; first | (refine SL.W.dfin ?_; simp only [SL.aps]) | refine SL.W.dpass ?_ | refine SL.W.dpure ?_ | refine SL.W.dload ?_ | refine SL.W.dloadA ?_ | refine SL.W.dfrz ?_ | (refine SL.W.dthaw ?_; simp only [SL.aps])) | ((first | refine SL.W.guardP (fun h => ?_) (fun h => ?_) | refine SL.W.condP (fun h => ?_) (fun h => ?_) | refine SL.W.dguardP (fun h => ?_) (fun h => ?_)) <;> (fail_if_success (have : h = trivial := rfl)) <;> (fail_if_success (have : h = not_false := rfl)) <;> first | contradiction | (exfalso; omega) | (exfalso; revert h; simp; done) | skip) | ((first | refine SL.W.guardB (fun h => ?_) (fun h => ?_) | refine SL.W.dguardB (fun h => ?_) (fun h => ?_)) <;> (fail_if_success (have : h = (rfl : true = true) := rfl)) <;> (fail_if_success (have : h = (rfl : false = false) := rfl))) | refine SL.W.condB (fun h => ?_) (fun h => ?_) | (refine SL.TD.is ?_; first | refine SL.W.done ?_ | refine SL.W.dtwo ?_ ?_ | refine SL.W.dthree ?_ ?_ ?_))
      refine SL.TK.againD ih ⟨i + 1, bs ++ putN k ++ putN n ++ putN cs.length ++ cs, by omega, ?_, rfl, rfl, rfl⟩ (by first | ((repeat (first | exact SL.Sub.nil | refine SL.Sub.cons (by rfl) (by first | rfl | exact SL.int_eq (by omega)) ?_)); done) | fail) (EntD.cons (by first | ((repeat (first | exact SL.Pick.head | apply SL.Pick.tail)); done) | fail) (EntD.cons (by first | ((repeat (first | exact SL.Pick.head | apply SL.Pick.tail)); done) | fail) (EntD.cons (by first | ((repeat (first | exact SL.Pick.head | apply SL.Pick.tail)); done) | fail) (EntD.cons (by first | ((repeat (first | exact SL.Pick.head | apply SL.Pick.tail)); done) | fail) (EntD.cons (by first | ((repeat (first | exact SL.Pick.head | apply SL.Pick.tail)); done) | fail) EntD.nil))))) (by omega)
      rw [hT2.out, hBS.out]
      simp [tb1]
    · have hil : i = T.length := by omega
      subst hil
      have hb : bs = tbs T := by rw [hBS.out, List.take_length, tbs_eq]
      subst hb
      clear ih
      repeat' (first | (refine SL.TO.is ?_; first | (refine SL.W.quick ?_; first | refine SL.W.pass ?_ | refine SL.W.pv ?_ | refine SL.W.pv0 ?_) | (refine SL.TO.door (o := ⟨_, .call _, _, _, _, _⟩) ?_; first | (refine SL.TO.door (o := ⟨_, .call ⟨.value (.func 37), _, _⟩, _, _, _, _⟩) ?_; first | (refine SL.W.call (hout.out _) ?_; rintro _ _ ⟨a2, c2, rfl, ha2, rfl⟩; try simp only [SL.aps]))) | refine SL.TO.nil ?_ | (refine SL.TO.nilD ?_; simp only [SL.setB]) | refine SL.W.pass ?_ | refine SL.W.pass0 ?_ | (refine SL.W.pure ?_; first | refine SL.W.pv ?_ | refine SL.W.pv0 ?_ | refine SL.W.lenMp ?_) | (refine SL.W.loud ?_; first | refine SL.W.load ?_ | refine SL.W.loadA ?_ | refine SL.W.store ?_ | refine SL.W.storeA ?_ | (refine SL.W.box ?_; intro b) | (refine SL.W.alloc ?_; intro b) | (refine SL.W.buildSlice ?_; intro b) | (refine SL.W.append ?_; intro a cap) | refine SL.W.bytesToStr ?_ | refine SL.W.toIntC ?_ | (refine SL.W.makeSlice ?_; intro b) | refine SL.W.lookupOk ?_ | refine SL.W.lookup ?_ | (refine SL.W.makeMap ?_; intro b) | refine SL.W.mapUpdate ?_ | (refine SL.W.mapEntry ?_; intro stamp) | refine SL.W.entryStore ?_ | (refine SL.W.range ?_; intro it) | refine SL.W.delete ?_)) | (refine SL.TK.is ?_; first | refine SL.TK.seq ?_ | refine SL.TK.region ?_ | refine SL.TK.regionD SL.mixed (by simp only [SL.falses] <;> rfl) ?_ | refine SL.TK.block ?_ | refine SL.TK.inBlock ?_ | refine SL.TK.skip ?_ | refine SL.TK.scope ?_ | refine SL.TK.inScope ?_ | refine SL.TK.label ?_ | (refine SL.TK.isExit ?_; refine SL.W.exit ?_) | refine SL.W.condT ?_ | refine SL.W.condF ?_) | (refine SL.TD.is ?_; first | (refine SL.W.dfin ?_; simp only [SL.aps]) | refine SL.W.dpass ?_ | refine SL.W.dpure ?_ | refine SL.W.dload ?_ | refine SL.W.dloadA ?_ | refine SL.W.dfrz ?_ | (refine SL.W.dthaw ?_; simp only [SL.aps])) | ((first | refine SL.W.guardP (fun h => ?_) (fun h => ?_) | refine SL.W.condP (fun h => ?_) (fun h => ?_) | refine SL.W.dguardP (fun h => ?_) (fun h => ?_)) <;> (fail_if_success (have : h = trivial := rfl)) <;> (fail_if_success (have : h = not_false := rfl)) <;> first | contradiction | (exfalso; omega) | (exfalso; revert h; simp; done) | skip) | ((first | refine SL.W.guardB (fun h => ?_) (fun h => ?_) | refine SL.W.dguardB (fun h => ?_) (fun h => ?_)) <;> (fail_if_success (have : h = (rfl : true = true) := rfl)) <;> (fail_if_success (have : h = (rfl : false = false) := rfl))) | refine SL.W.condB (fun h => ?_) (fun h => ?_) | (refine SL.TD.is ?_; first | refine SL.W.done ?_ | refine SL.W.dtwo ?_ ?_ | refine SL.W.dthree ?_ ?_ ?_))
      exact SL.TK.retD Tryz.func53 (SL.Res.one rfl (by rfl)) ⟨a2, c2, rfl, ha2, rfl⟩ (EntD.frm (pre := [SL.blk tb 124 [.map (some mb)], mp (Value.int .u32) mb l, RO g]) (by first | ((repeat (first | exact SL.Frm.nil | exact SL.Frm.refl | (apply SL.Frm.cons; repeat (first | exact SL.Pick.head | apply SL.Pick.tail)))); done) | fail) (tb_shut hV.out) (EntD.cons (by first | ((repeat (first | exact SL.Pick.head | apply SL.Pick.tail)); done) | fail) EntD.nil))
end SL
end
section
set_option linter.unusedVariables false
set_option linter.unusedSimpArgs false
set_option maxRecDepth 10000
namespace SL
open Go Go.Proofs Go.RowKit
theorem get_of_mem {q : Int} {v : Value} : ∀ {l : List (Int × Value)}, (l.map (·.1)).Nodup → (q, v) ∈ l → get q l = some v
  | [], _, h => by simp at h
  | p :: l, hn, h => by
    simp only [List.map_cons, List.nodup_cons] at hn
    simp only [get]
    rcases List.mem_cons.1 h with h | h
    · subst h; simp
    · rw [if_neg (fun e => hn.1 (by rw [e]; exact List.mem_map.2 ⟨_, h, rfl⟩))]
      exact get_of_mem hn.2 h
theorem Tv.of_mem {g : Hp} {l : List (Int × Value)} {T : OT} (h : Tv g l T) (hn : (l.map (·.1)).Nodup) {q : Int} {v : Value} (hm : (q, v) ∈ l) :
    ∃ n bs a c, v = .agg [.int .u64 ((n : Nat) : Int), .slice a bs.length c].toArray ∧ olk q T = some (n, bs) ∧ RdG g a (bs.map byteV) ∧ bs.length ≤ c := by
  have hk := (h.keys q).1 (List.mem_map.2 ⟨_, hm, rfl⟩)
  cases hq : olk q T with
  | none => exact absurd hk (olk_none.1 hq)
  | some ov =>
    obtain ⟨a, c, h1, h2, h3⟩ := h.val q ov hq
    rw [get_of_mem hn hm] at h1
    simp only [Option.some.injEq] at h1
    exact ⟨ov.1, ov.2, a, c, h1, rfl, h2, h3⟩
structure Td (g : Hp) (l : List (Int × Value)) (T : OT) (done : List Int) : Prop where
  keys : ∀ q, q ∈ l.map (·.1) ↔ q ∈ done
  val : ∀ q v, q ∈ done → olk q T = some v → ∃ a c, get q l = some (VO v a c) ∧ RdG g a (v.2.map byteV) ∧ v.2.length ≤ c
theorem Td.ins {g g' : Hp} {l : List (Int × Value)} {T : OT} {done : List Int} (h : Td g l T done) (hg : HLe g g') {q : Int} {v : OV} (hq : olk q T = some v) {a : Option Addr} {c : Nat} (hr : RdG g' a (v.2.map byteV)) (hc : v.2.length ≤ c) :
    Td g' (upd q (VO v a c) l) T (q :: done) := by
  refine ⟨fun x => by rw [upd_keys, h.keys, List.mem_cons], fun x w hx e => ?_⟩
  rw [get_upd]
  by_cases hqx : q = x
  · subst hqx
    rw [hq] at e
    simp at e
    subst e
    exact ⟨a, c, by rw [if_pos rfl], hr, hc⟩
  · rw [if_neg hqx]
    rcases List.mem_cons.1 hx with hx | hx
    · exact absurd hx.symm hqx
    · obtain ⟨a', c', h1, h2, h3⟩ := h.val x w hx e
      exact ⟨a', c', h1, h2.le hg, h3⟩
attribute [local irreducible] SL.TK SL.TO SL.TD SL.PV SL.Pick SL.Frm SL.Ent SL.Sub SL.EvAll SL.seps SL.sep SL.Cut SL.PutAt SL.blk SL.EvP SL.Fill SL.Src SL.EntD SL.own SL.ex SL.fact SL.orig
def cpT (tb tb2 mb mb2 it : Nat) (l : List (Int × Value)) (g : Hp) (T : OT) (ρ : Env) (L : List HProp) (m : Nat) : Prop := ∃ (done : List Int) (l2 : List (Int × Value)) (g2 : Hp), (∀ q ∈ done, q ∈ l.map (·.1)) ∧ Td g2 l2 T done ∧
  ρ = [(3, .pointer (some ⟨tb2, 0, none⟩)), (13, .pointer (some ⟨it, 0, none⟩))] ∧
  L = [SL.blk tb 124 [.map (some mb)], mpI (Value.int .u32) mb l (some (it, done)), RO g, SL.blk tb2 124 [.map (some mb2)], mp (Value.int .u32) mb2 l2, RO g2] ∧ m = l.countP (fun p => !done.contains p.1)
theorem tCopy_spec (tb : Nat) (T : OT) (hT : TOk T) : Spec Tryz.prog 50 [.pointer (some ⟨tb, 0, none⟩)] [TbAt tb T]
    (fun r L => ∃ tb2, r = .pointer (some ⟨tb2, 0, none⟩) ∧ L = [TbAt tb T, TbAt tb2 T]) := by
  have hnew := Lib.hid tNew_spec
  have hall := Lib.hid fun (q : Int) (v : OV) (h : olk q T = some v) => hT.lk h
  refine SL.Spec.of_TK Go.Proofs.Tryz.func50 rfl rfl SL.call50 rfl ?_
  refine SL.TK.openTb (by first | ((repeat (first | exact SL.Pick.head | apply SL.Pick.tail)); done) | fail) (fun mb l g hv hn => ?_)
  have hV := Lib.hid hv
  have hM := Lib.hid fun (q : Int) (v : Value) (hm : (q, v) ∈ l) => hv.of_mem hn hm
  clear hv hn hT
  repeat' (first | (refine SL.TO.is ?_; first | (refine SL.TO.door (o := ⟨_, .call ⟨.value (.func 60), _, _⟩, _, _, _, _⟩) ?_; first | (refine SL.W.call (tNone_spec _ _) ?_; rintro _ _ ⟨rfl, rfl⟩; try simp only [SL.aps])) | (refine SL.TO.door (o := ⟨_, .call ⟨.value (.func 48), _, _⟩, _, _, _, _⟩) ?_; first | ((refine SL.W.call (hnew.out) ?_; rintro _ _ ⟨tb2, rfl, rfl⟩; try simp only [SL.aps]); clear hnew)) | refine SL.TO.nil ?_ | (refine SL.TO.nilD ?_; simp only [SL.setB]) | refine SL.W.pass ?_ | refine SL.W.pass0 ?_ | (refine SL.W.pure ?_; first | refine SL.W.pv ?_ | refine SL.W.pv0 ?_ | refine SL.W.lenMp ?_) | (refine SL.W.loud ?_; first | refine SL.W.load ?_ | refine SL.W.loadA ?_ | refine SL.W.store ?_ | refine SL.W.storeA ?_ | (refine SL.W.box ?_; intro b) | (refine SL.W.alloc ?_; intro b) | (refine SL.W.buildSlice ?_; intro b) | (refine SL.W.append ?_; intro a cap) | refine SL.W.bytesToStr ?_ | refine SL.W.toIntC ?_ | (refine SL.W.makeSlice ?_; intro b) | refine SL.W.lookupOk ?_ | refine SL.W.lookup ?_ | (refine SL.W.makeMap ?_; intro b) | refine SL.W.mapUpdate ?_ | (refine SL.W.mapEntry ?_; intro stamp) | refine SL.W.entryStore ?_ | (refine SL.W.range ?_; intro it) | refine SL.W.delete ?_)) | (refine SL.TK.lp ?_; first | (refine SL.TK.block ?_; refine SL.TK.loopD (cpT tb tb2 mb mb2 it l g T) ?_ ⟨[], l2, g2, by simp, ⟨fun q => by rw [hv2.keys q]; simp, fun q v h => by simp at h⟩, rfl, rfl, rfl⟩ (by first | ((repeat (first | exact SL.Sub.nil | refine SL.Sub.cons (by rfl) (by first | rfl | exact SL.int_eq (by omega)) ?_)); done) | fail) (EntD.cons (by first | ((repeat (first | exact SL.Pick.head | apply SL.Pick.tail)); done) | fail) (EntD.cons (by first | ((repeat (first | exact SL.Pick.head | apply SL.Pick.tail)); done) | fail) (EntD.cons (by first | ((repeat (first | exact SL.Pick.head | apply SL.Pick.tail)); done) | fail) (EntD.cons (by first | ((repeat (first | exact SL.Pick.head | apply SL.Pick.tail)); done) | fail) (EntD.cons (by first | ((repeat (first | exact SL.Pick.head | apply SL.Pick.tail)); done) | fail) (EntD.cons (by first | ((repeat (first | exact SL.Pick.head | apply SL.Pick.tail)); done) | fail) EntD.nil)))))))) | (refine SL.TK.is ?_; first | ((fail_if_success have := hnew); refine SL.TK.openTb (by first | ((repeat (first | exact SL.Pick.head | apply SL.Pick.tail)); done) | fail) (fun mb2 l2 g2 hv2 hn2 => ?_)) | refine SL.TK.seq ?_ | refine SL.TK.region ?_ | refine SL.TK.regionD SL.mixed (by simp only [SL.falses] <;> rfl) ?_ | refine SL.TK.block ?_ | refine SL.TK.inBlock ?_ | refine SL.TK.skip ?_ | refine SL.TK.scope ?_ | refine SL.TK.inScope ?_ | refine SL.TK.label ?_ | refine SL.W.exit ?_ | refine SL.W.condT ?_ | refine SL.W.condF ?_) | (refine SL.TD.is ?_; first | (refine SL.W.dfin ?_; simp only [SL.aps]) | refine SL.W.dpass ?_ | refine SL.W.dpure ?_ | refine SL.W.dload ?_ | refine SL.W.dloadA ?_ | refine SL.W.dfrz ?_ | (refine SL.W.dthaw ?_; simp only [SL.aps])) | ((first | refine SL.W.guardP (fun h => ?_) (fun h => ?_) | refine SL.W.condP (fun h => ?_) (fun h => ?_) | refine SL.W.dguardP (fun h => ?_) (fun h => ?_)) <;> (fail_if_success (have : h = trivial := rfl)) <;> (fail_if_success (have : h = not_false := rfl)) <;> first | contradiction | (exfalso; omega) | (exfalso; revert h; simp; done) | skip) | ((first | refine SL.W.guardB (fun h => ?_) (fun h => ?_) | refine SL.W.dguardB (fun h => ?_) (fun h => ?_)) <;> (fail_if_success (have : h = (rfl : true = true) := rfl)) <;> (fail_if_success (have : h = (rfl : false = false) := rfl))) | refine SL.W.condB (fun h => ?_) (fun h => ?_) | (refine SL.TD.is ?_; first | refine SL.W.done ?_ | refine SL.W.dtwo ?_ ?_ | refine SL.W.dthree ?_ ?_ ?_))
  clear hv2 hn2
  rintro ρ L m ⟨done, l2', g2', hin, htd, rfl, rfl, rfl⟩ ih
  have hI := Lib.hid hin
  have hTD := Lib.hid htd
  clear hin htd
  repeat' (first | (intro q v hqv hqd; obtain ⟨n, bs, a3, c3, rfl, hov, hr, hc3⟩ := hM.out _ _ hqv; have hb := Lib.hid (bclone_spec (X := RO g) (a := a3) (cap := c3) (bs := bs) (RdB.ro hr) (by have := (hall.out _ _ hov).2; simp only at this; omega)); clear hr hc3) | intro hend | (refine SL.TO.is ?_; first | refine SL.W.next ?_ ?_ | refine SL.W.entry ?_ | (refine SL.TO.door (o := ⟨_, .call ⟨.value (.func 22), _, _⟩, _, _, _, _⟩) ?_; first | (refine SL.W.call (hb.out) ?_; rintro _ _ ⟨a4, c4, rfl, ha4, rfl⟩; try simp only [SL.aps])) | refine SL.TO.nil ?_ | (refine SL.TO.nilD ?_; simp only [SL.setB]) | refine SL.W.pass ?_ | refine SL.W.pass0 ?_ | (refine SL.W.pure ?_; first | refine SL.W.pv ?_ | refine SL.W.pv0 ?_ | refine SL.W.lenMp ?_) | (refine SL.W.loud ?_; first | refine SL.W.load ?_ | refine SL.W.loadA ?_ | refine SL.W.store ?_ | refine SL.W.storeA ?_ | (refine SL.W.box ?_; intro b) | (refine SL.W.alloc ?_; intro b) | (refine SL.W.buildSlice ?_; intro b) | (refine SL.W.append ?_; intro a cap) | refine SL.W.bytesToStr ?_ | refine SL.W.toIntC ?_ | (refine SL.W.makeSlice ?_; intro b) | refine SL.W.lookupOk ?_ | refine SL.W.lookup ?_ | (refine SL.W.makeMap ?_; intro b) | refine SL.W.mapUpdate ?_ | (refine SL.W.mapEntry ?_; intro stamp) | refine SL.W.entryStore ?_ | (refine SL.W.range ?_; intro it) | refine SL.W.delete ?_)) | (refine SL.TK.is ?_; first | refine SL.TK.seq ?_ | refine SL.TK.region ?_ | refine SL.TK.regionD SL.mixed (by simp only [SL.falses] <;> rfl) ?_ | refine SL.TK.block ?_ | refine SL.TK.inBlock ?_ | refine SL.TK.skip ?_ | refine SL.TK.scope ?_ | refine SL.TK.inScope ?_ | refine SL.TK.label ?_ | refine SL.W.exit ?_ | refine SL.W.condT ?_ | refine SL.W.condF ?_) | (refine SL.TD.is ?_; first | (refine SL.W.dfin ?_; simp only [SL.aps]) | refine SL.W.dpass ?_ | refine SL.W.dpure ?_ | refine SL.W.dload ?_ | refine SL.W.dloadA ?_ | refine SL.W.dfrz ?_ | (refine SL.W.dthaw ?_; simp only [SL.aps])) | ((first | refine SL.W.guardP (fun h => ?_) (fun h => ?_) | refine SL.W.condP (fun h => ?_) (fun h => ?_) | refine SL.W.dguardP (fun h => ?_) (fun h => ?_)) <;> (fail_if_success (have : h = trivial := rfl)) <;> (fail_if_success (have : h = not_false := rfl)) <;> first | contradiction | (exfalso; omega) | (exfalso; revert h; simp; done) | skip) | ((first | refine SL.W.guardB (fun h => ?_) (fun h => ?_) | refine SL.W.dguardB (fun h => ?_) (fun h => ?_)) <;> (fail_if_success (have : h = (rfl : true = true) := rfl)) <;> (fail_if_success (have : h = (rfl : false = false) := rfl))) | refine SL.W.condB (fun h => ?_) (fun h => ?_) | (refine SL.TD.is ?_; first | refine SL.W.done ?_ | refine SL.W.dtwo ?_ ?_ | refine SL.W.dthree ?_ ?_ ?_))
  · have hfin : Tv g2' l2' T := ⟨fun q => by
        rw [hTD.out.keys, ← hV.out.keys]
        refine ⟨hI.out q, fun h => ?_⟩
        obtain ⟨p, hp, rfl⟩ := List.mem_map.1 h
        exact hend p hp, fun q v e => by
        refine hTD.out.val q v ?_ e
        have h1 := (hV.out.keys q).2 (List.mem_map.2 ⟨_, olk_some_mem e, rfl⟩)
        obtain ⟨p, hp, rfl⟩ := List.mem_map.1 h1
        exact hend p hp⟩
    refine SL.TK.retD Tryz.func50 (SL.Res.one rfl (by rfl)) ⟨tb2, rfl, rfl⟩ (EntD.trans mpI_done ?_)
    exact EntD.frm (pre := [SL.blk tb 124 [.map (some mb)], mp (Value.int .u32) mb l, RO g]) (by first | ((repeat (first | exact SL.Frm.nil | exact SL.Frm.refl | (apply SL.Frm.cons; repeat (first | exact SL.Pick.head | apply SL.Pick.tail)))); done) | fail) (tb_shut hV.out) (EntD.frm (pre := [SL.blk tb2 124 [.map (some mb2)], mp (Value.int .u32) mb2 l2', RO g2']) (by first | ((repeat (first | exact SL.Frm.nil | exact SL.Frm.refl | (apply SL.Frm.cons; repeat (first | exact SL.Pick.head | apply SL.Pick.tail)))); done) | fail) (tb_shut hfin) EntD.nil)
  · refine SL.TK.freeze (e := 5) (sz := 1) (a := a4) (g := g2') (by first | ((repeat (first | exact SL.Frm.nil | exact SL.Frm.refl | (apply SL.Frm.cons; repeat (first | exact SL.Pick.head | apply SL.Pick.tail)))); done) | fail) (fun g3 hg hr3 hle => ?_)
    refine SL.TK.againD ih ⟨q :: done, _, g3, ?_, hTD.out.ins hg hov hr3 hle, rfl, rfl, rfl⟩ (by first | ((repeat (first | exact SL.Sub.nil | refine SL.Sub.cons (by rfl) (by first | rfl | exact SL.int_eq (by omega)) ?_)); done) | fail) (EntD.cons (by first | ((repeat (first | exact SL.Pick.head | apply SL.Pick.tail)); done) | fail) (EntD.cons (by first | ((repeat (first | exact SL.Pick.head | apply SL.Pick.tail)); done) | fail) (EntD.cons (by first | ((repeat (first | exact SL.Pick.head | apply SL.Pick.tail)); done) | fail) (EntD.cons (by first | ((repeat (first | exact SL.Pick.head | apply SL.Pick.tail)); done) | fail) (EntD.cons (by first | ((repeat (first | exact SL.Pick.head | apply SL.Pick.tail)); done) | fail) (EntD.cons (by first | ((repeat (first | exact SL.Pick.head | apply SL.Pick.tail)); done) | fail) EntD.nil)))))) (flt_lt hqv hqd)
    intro x hx
    rcases List.mem_cons.1 hx with rfl | hx
    · exact List.mem_map.2 ⟨_, hqv, rfl⟩
    · exact hI.out x hx
end SL
end
