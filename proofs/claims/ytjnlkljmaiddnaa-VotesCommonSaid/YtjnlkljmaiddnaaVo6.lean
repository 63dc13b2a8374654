/-
  The given statement 'VotesCommon': two have one in common.
  Conditions: none beyond those of the given statement.
-/
import Derived.Test.YtjnlkljmaiddnaaVo5
import Derived.Test.YtjnlkljmaiddnaaRows
set_option linter.unusedVariables false
set_option linter.unusedSimpArgs false
set_option maxRecDepth 10000
namespace SL
open Go Go.Proofs Go.RowKit Go.ChangeShapes Go.WideShapes Go.ChangeAt Go.WideElems

/-- the first i nodes voted for m as F says, no other one -/
def Vtd (F : Nat → Bool) (i : Nat) (V : VoT) (m : Mt) : Prop := ∀ j, vt m j V = (decide (j < i) && F j)
theorem Vtd.nil (F : Nat → Bool) (m : Mt) : Vtd F 0 [] m := fun j => by rw [vt_nil]; simp
theorem Vtd.yes {F : Nat → Bool} {i : Nat} {V : VoT} {m : Mt} (h : Vtd F i V m) (hV : Ok7 V) (h7 : i < 7) (hF : F i = true) : Vtd F (i + 1) (vot m i V) m := fun j => by
  rw [vt_vot hV m m i j h7, h j]
  by_cases e : i = j
  · subst e; rw [if_pos ⟨rfl, rfl⟩, hF]; simp
  · rw [if_neg (fun c => e c.2)]
    have : decide (j < i) = decide (j < i + 1) := by rw [decide_eq_decide]; omega
    rw [this]
theorem Vtd.no {F : Nat → Bool} {i : Nat} {V : VoT} {m : Mt} (h : Vtd F i V m) (hF : F i = false) : Vtd F (i + 1) V m := fun j => by
  rw [h j]
  by_cases e : i = j
  · subst e; rw [hF]; simp
  · have : decide (j < i) = decide (j < i + 1) := by rw [decide_eq_decide]; omega
    rw [this]
theorem Vtd.other {F : Nat → Bool} {i k : Nat} {V : VoT} {m x : Mt} (h : Vtd F i V x) (hV : Ok7 V) (h7 : k < 7) (hne : m ≠ x) : Vtd F i (vot m k V) x := fun j => by
  rw [vt_vot hV m x k j h7, if_neg (fun c => hne c.1)]; exact h j
def bt (f : Int) (j : Nat) : Bool := decide (andI .u8 (shrI .u8 f j) 1 = 1)
/-- how many voted for both -/
def both (V : VoT) (i : Nat) : Nat := (List.range i).countP fun j => vt (1, 0, 0) j V && vt (2, 0, 0) j V
theorem both_le (V : VoT) (i : Nat) : both V i ≤ i := count_le _ _
theorem vtd_cnt {F : Nat → Bool} {N : Nat} {V : VoT} {m : Mt} (hV : Ok7 V) (h7 : N ≤ 7) (h : Vtd F N V m) : cnt m V = (List.range N).countP fun j => vt m j V := by
  rw [cnt_count hV]
  exact count_cut _ N 7 (fun j hj => by rw [h j]; simp; omega) h7
attribute [local irreducible] SL.TK SL.TO SL.TD SL.PV SL.Pick SL.Frm SL.Ent SL.Sub SL.EvAll SL.seps SL.sep SL.Cut SL.PutAt SL.blk SL.EvP SL.Fill SL.Src SL.EntD SL.own SL.ex SL.fact SL.orig

def vc0 (nb pa pb N : Nat) (f g : Int) (ρ : Env) (L : List HProp) (m : Nat) : Prop := ∃ (i : Nat) (V : VoT), i ≤ N ∧ Ok7 V ∧ Vtd (bt f) i V (1, 0, 0) ∧ Vtd (bt g) i V (2, 0, 0) ∧
  ρ = [(1, .int .u8 f), (2, .int .u8 g), (7, .int .i64 N), (8, .pointer (some ⟨nb, 0, none⟩)), (10, .pointer (some ⟨pa, 0, none⟩)), (11, .pointer (some ⟨pb, 0, none⟩)), (12, .int .i64 i)] ∧
  L = [VotesAt nb N V, SL.blk pa 35 [.int .i64 1, .int .u64 0, .int .u64 0], SL.blk pb 35 [.int .i64 2, .int .u64 0, .int .u64 0]] ∧ m = N - i
def vc1 (nb pa pb N M : Nat) (V : VoT) (ρ : Env) (L : List HProp) (m : Nat) : Prop := ∃ (i : Nat), i ≤ N ∧
  ρ = [(7, .int .i64 N), (8, .pointer (some ⟨nb, 0, none⟩)), (10, .pointer (some ⟨pa, 0, none⟩)), (11, .pointer (some ⟨pb, 0, none⟩)), (13, .int .i64 M), (14, .int .i64 (both V i)), (15, .int .i64 i)] ∧
  L = [VotesAt nb N V, SL.blk pa 35 [.int .i64 1, .int .u64 0, .int .u64 0], SL.blk pb 35 [.int .i64 2, .int .u64 0, .int .u64 0]] ∧ m = N - i
set_option maxHeartbeats 4000000 in
theorem common_spec (z f g : Int) (hz : 0 ≤ z ∧ z ≤ 255) (hf : 0 ≤ f ∧ f ≤ 255) (hg : 0 ≤ g ∧ g ≤ 255) : Spec Try.prog 5 [.int .u8 z, .int .u8 f, .int .u8 g] [] (fun r L => r = .bool true ∧ L = []) := by
  have hW := Lib.hid voWakes_spec
  obtain ⟨N, hN⟩ : ∃ N : Nat, (1 : Int) + z % 7 = (N : Int) := ⟨(1 + z % 7).toNat, by omega⟩
  have e7 : Value.int .i64 (1 + z % 7) = .int .i64 (N : Int) := by rw [hN]
  have hN7 : 1 ≤ N ∧ N ≤ 7 := by omega
  obtain ⟨hN1, hN2⟩ := hN7
  have hNew := voNew_spec N hN1 hN2
  refine SL.Spec.of_TK Go.Proofs.Try.func5 rfl rfl SL.call5 rfl ?_
  repeat' (first | (refine SL.TO.is ?_; first | (refine SL.TO.door (o := ⟨_, .call ⟨.value (.func 19), _, _⟩, _, _, _, _⟩) ?_; first | (refine SL.W.call (hNew) ?_; rintro _ _ ⟨nb, rfl, rfl⟩; try simp only [List.cons_append, List.nil_append])) | refine SL.TO.nil ?_ | (refine SL.TO.nilD ?_; simp only [SL.setB]) | refine SL.W.pass ?_ | refine SL.W.pass0 ?_ | (refine SL.W.pure ?_; first | refine SL.W.pv ?_ | refine SL.W.pv0 ?_ | refine SL.W.lenMp ?_ | (refine SL.W.guardP (fun h => ?_) (fun h => ?_) <;> (fail_if_success (have : h = trivial := rfl)) <;> (fail_if_success (have : h = not_false := rfl)) <;> first | contradiction | (exfalso; omega) | (exfalso; revert h; simp; done) | skip) | (refine SL.W.guardB (fun h => ?_) (fun h => ?_) <;> (fail_if_success (have : h = (rfl : true = true) := rfl)) <;> (fail_if_success (have : h = (rfl : false = false) := rfl)))) | (refine SL.W.loud ?_; first | refine SL.W.load ?_ | refine SL.W.loadA ?_ | refine SL.W.store ?_ | refine SL.W.storeA ?_ | (refine SL.W.box ?_; intro b) | (refine SL.W.alloc ?_; intro b) | (refine SL.W.buildSlice ?_; intro b) | (refine SL.W.append ?_; intro a cap) | refine SL.W.bytesToStr ?_ | refine SL.W.pvn (SL.PV.toIntC (by rfl) (by first | exact SL.wrap_i64 (by omega) | exact SL.wrap_u8 (by omega) | exact SL.wrap_u32 (by omega) | exact SL.wrap_u64 (by omega) | rfl)) ?_ | (refine SL.W.makeSlice ?_; intro b) | refine SL.W.lookupOk ?_ | refine SL.W.lookup ?_ | (refine SL.W.makeMap ?_; intro b) | refine SL.W.mapUpdate ?_ | (refine SL.W.mapEntry ?_; intro stamp) | refine SL.W.entryStore ?_ | (refine SL.W.range ?_; intro it) | refine SL.W.delete ?_ | (refine SL.W.guardP (fun h => ?_) (fun h => ?_) <;> (fail_if_success (have : h = trivial := rfl)) <;> (fail_if_success (have : h = not_false := rfl)) <;> first | contradiction | (exfalso; omega) | (exfalso; revert h; simp; done) | skip) | (refine SL.W.guardB (fun h => ?_) (fun h => ?_) <;> (fail_if_success (have : h = (rfl : true = true) := rfl)) <;> (fail_if_success (have : h = (rfl : false = false) := rfl))))) | (refine SL.TK.lp ?_; first | (refine SL.TK.block ?_; refine SL.TK.loopD (vc0 nb _ _ N f g) ?_ ⟨0, [], Nat.zero_le _, Ok7.nil, Vtd.nil _ _, Vtd.nil _ _, rfl, rfl, rfl⟩ (by first | ((repeat (first | exact SL.Sub.nil | refine SL.Sub.cons (by rfl) (by first | rfl | exact SL.int_eq (by omega)) ?_)); done) | fail) (EntD.cons (by first | ((repeat (first | exact SL.Pick.head | apply SL.Pick.tail)); done) | fail) (EntD.cons (by first | ((repeat (first | exact SL.Pick.head | apply SL.Pick.tail)); done) | fail) (EntD.cons (by first | ((repeat (first | exact SL.Pick.head | apply SL.Pick.tail)); done) | fail) EntD.nil))))) | (refine SL.TK.is ?_; first | refine SL.TK.slot (d := 7) (by rfl) e7 ?_ | refine SL.TK.seq ?_ | refine SL.TK.region ?_ | refine SL.TK.regionD SL.mixed (by simp only [SL.falses] <;> rfl) ?_ | refine SL.TK.block ?_ | refine SL.TK.inBlock ?_ | refine SL.TK.skip ?_ | refine SL.TK.scope ?_ | refine SL.TK.inScope ?_ | refine SL.TK.label ?_ | refine SL.W.exit ?_ | refine SL.W.condT ?_ | refine SL.W.condF ?_ | (refine SL.W.condP (fun h => ?_) (fun h => ?_) <;> (fail_if_success (have : h = trivial := rfl)) <;> (fail_if_success (have : h = not_false := rfl)) <;> first | contradiction | (exfalso; omega) | (exfalso; revert h; simp; done) | skip) | refine SL.W.condB (fun h => ?_) (fun h => ?_)) | (refine SL.TD.is ?_; first | (refine SL.W.dfin ?_; simp only [List.append_nil, List.cons_append, List.nil_append]) | refine SL.W.dpass ?_ | refine SL.W.dpure ?_ | refine SL.W.dload ?_ | refine SL.W.dloadA ?_ | refine SL.W.dfrz ?_ | (refine SL.W.dthaw ?_; simp only [List.append_nil, List.cons_append, List.nil_append]) | (refine SL.W.dguardP (fun h => ?_) (fun h => ?_) <;> (fail_if_success (have : h = trivial := rfl)) <;> (fail_if_success (have : h = not_false := rfl)) <;> first | contradiction | (exfalso; omega) | (exfalso; revert h; simp; done) | skip) | (refine SL.W.dguardB (fun h => ?_) (fun h => ?_) <;> (fail_if_success (have : h = (rfl : true = true) := rfl)) <;> (fail_if_success (have : h = (rfl : false = false) := rfl))) | refine SL.W.done ?_ | refine SL.W.dtwo ?_ ?_ | refine SL.W.dthree ?_ ?_ ?_))
  clear hNew e7 hN
  rintro ρ L m ⟨i, V, hi, hV, hA, hB, rfl, rfl, rfl⟩ ih
  rename_i pa
  by_cases hlt : i < N
  · clear hW
    obtain ⟨sf, hsf⟩ : ∃ s, shrI .u8 f (i : Int) = s := ⟨_, rfl⟩
    obtain ⟨sg, hsg⟩ : ∃ s, shrI .u8 g (i : Int) = s := ⟨_, rfl⟩
    obtain ⟨af, haf⟩ : ∃ a, andI .u8 sf 1 = a := ⟨_, rfl⟩
    obtain ⟨ag, hag⟩ : ∃ a, andI .u8 sg 1 = a := ⟨_, rfl⟩
    have hbf : Hid (bt f i = decide (af = 1)) := Lib.hid (by rw [bt, hsf, haf])
    have hbg : Hid (bt g i = decide (ag = 1)) := Lib.hid (by rw [bt, hsg, hag])
    have hH := Lib.hid (And.intro hV (And.intro hA hB))
    have h7 : i < 7 := by omega
    have a1 := Lib.hid (add_spec nb N i V 1 0 0 hV hlt hN2)
    have b1 := Lib.hid (add_spec nb N i V 2 0 0 hV hlt hN2)
    have b2 := Lib.hid (add_spec nb N i (vot (1, 0, 0) i V) 2 0 0 (hV.vot) hlt hN2)
    obtain ⟨Va, hVa⟩ : ∃ x, x = vot (1, 0, 0) i V := ⟨_, rfl⟩
    obtain ⟨Vb, hVb⟩ : ∃ x, x = vot (2, 0, 0) i V := ⟨_, rfl⟩
    obtain ⟨Vc, hVc⟩ : ∃ x, x = vot (2, 0, 0) i Va := ⟨_, rfl⟩
    rw [← hVa] at a1 b2
    rw [← hVb] at b1
    rw [← hVc] at b2
    have hX := Lib.hid (And.intro hVa (And.intro hVb hVc))
    clear hVa hVb hVc hA hB hV
    repeat' (first | refine SL.W.pvn (PV.shr (by rfl) (by rfl) (by omega) hsf) ?_ | refine SL.W.pvn (PV.shr (by rfl) (by rfl) (by omega) hsg) ?_ | refine SL.W.pvn (PV.and (by rfl) (by rfl) haf) ?_ | refine SL.W.pvn (PV.and (by rfl) (by rfl) hag) ?_ | (refine SL.TO.is ?_; first | (refine SL.TO.door (o := ⟨_, .call ⟨.value (.func 20), _, _⟩, _, _, _, _⟩) ?_; first | (refine SL.W.call (a1.out) ?_; rintro _ _ ⟨rfl, rfl⟩; try simp only [List.cons_append, List.nil_append]) | (refine SL.W.call (b1.out) ?_; rintro _ _ ⟨rfl, rfl⟩; try simp only [List.cons_append, List.nil_append]) | (refine SL.W.call (b2.out) ?_; rintro _ _ ⟨rfl, rfl⟩; try simp only [List.cons_append, List.nil_append])) | refine SL.TO.nil ?_ | (refine SL.TO.nilD ?_; simp only [SL.setB]) | refine SL.W.pass ?_ | refine SL.W.pass0 ?_ | (refine SL.W.pure ?_; first | refine SL.W.pv ?_ | refine SL.W.pv0 ?_ | refine SL.W.lenMp ?_ | (refine SL.W.guardP (fun h => ?_) (fun h => ?_) <;> (fail_if_success (have : h = trivial := rfl)) <;> (fail_if_success (have : h = not_false := rfl)) <;> first | contradiction | (exfalso; omega) | (exfalso; revert h; simp; done) | skip) | (refine SL.W.guardB (fun h => ?_) (fun h => ?_) <;> (fail_if_success (have : h = (rfl : true = true) := rfl)) <;> (fail_if_success (have : h = (rfl : false = false) := rfl)))) | (refine SL.W.loud ?_; first | refine SL.W.load ?_ | refine SL.W.loadA ?_ | refine SL.W.store ?_ | refine SL.W.storeA ?_ | (refine SL.W.box ?_; intro b) | (refine SL.W.alloc ?_; intro b) | (refine SL.W.buildSlice ?_; intro b) | (refine SL.W.append ?_; intro a cap) | refine SL.W.bytesToStr ?_ | refine SL.W.pvn (SL.PV.toIntC (by rfl) (by first | exact SL.wrap_i64 (by omega) | exact SL.wrap_u8 (by omega) | exact SL.wrap_u32 (by omega) | exact SL.wrap_u64 (by omega) | rfl)) ?_ | (refine SL.W.makeSlice ?_; intro b) | refine SL.W.lookupOk ?_ | refine SL.W.lookup ?_ | (refine SL.W.makeMap ?_; intro b) | refine SL.W.mapUpdate ?_ | (refine SL.W.mapEntry ?_; intro stamp) | refine SL.W.entryStore ?_ | (refine SL.W.range ?_; intro it) | refine SL.W.delete ?_ | (refine SL.W.guardP (fun h => ?_) (fun h => ?_) <;> (fail_if_success (have : h = trivial := rfl)) <;> (fail_if_success (have : h = not_false := rfl)) <;> first | contradiction | (exfalso; omega) | (exfalso; revert h; simp; done) | skip) | (refine SL.W.guardB (fun h => ?_) (fun h => ?_) <;> (fail_if_success (have : h = (rfl : true = true) := rfl)) <;> (fail_if_success (have : h = (rfl : false = false) := rfl))))) | (refine SL.TK.is ?_; first | refine SL.TK.seq ?_ | refine SL.TK.region ?_ | refine SL.TK.regionD SL.mixed (by simp only [SL.falses] <;> rfl) ?_ | refine SL.TK.block ?_ | refine SL.TK.inBlock ?_ | refine SL.TK.skip ?_ | refine SL.TK.scope ?_ | refine SL.TK.inScope ?_ | refine SL.TK.label ?_ | refine SL.W.exit ?_ | refine SL.W.condT ?_ | refine SL.W.condF ?_ | (refine SL.W.condP (fun h => ?_) (fun h => ?_) <;> (fail_if_success (have : h = trivial := rfl)) <;> (fail_if_success (have : h = not_false := rfl)) <;> first | contradiction | (exfalso; omega) | (exfalso; revert h; simp; done) | skip) | refine SL.W.condB (fun h => ?_) (fun h => ?_)) | (refine SL.TD.is ?_; first | (refine SL.W.dfin ?_; simp only [List.append_nil, List.cons_append, List.nil_append]) | refine SL.W.dpass ?_ | refine SL.W.dpure ?_ | refine SL.W.dload ?_ | refine SL.W.dloadA ?_ | refine SL.W.dfrz ?_ | (refine SL.W.dthaw ?_; simp only [List.append_nil, List.cons_append, List.nil_append]) | (refine SL.W.dguardP (fun h => ?_) (fun h => ?_) <;> (fail_if_success (have : h = trivial := rfl)) <;> (fail_if_success (have : h = not_false := rfl)) <;> first | contradiction | (exfalso; omega) | (exfalso; revert h; simp; done) | skip) | (refine SL.W.dguardB (fun h => ?_) (fun h => ?_) <;> (fail_if_success (have : h = (rfl : true = true) := rfl)) <;> (fail_if_success (have : h = (rfl : false = false) := rfl))) | refine SL.W.done ?_ | refine SL.W.dtwo ?_ ?_ | refine SL.W.dthree ?_ ?_ ?_))
    all_goals
      obtain ⟨hV, hA, hB⟩ := hH.out
      obtain ⟨xa, xb, xc⟩ := hX.out
      have hf1 : af = 1 → bt f i = true := fun h => by rw [hbf.out, h]; rfl
      have hf0 : ¬ af = 1 → bt f i = false := fun h => by rw [hbf.out, decide_eq_false h]
      have hg1 : ag = 1 → bt g i = true := fun h => by rw [hbg.out, h]; rfl
      have hg0 : ¬ ag = 1 → bt g i = false := fun h => by rw [hbg.out, decide_eq_false h]
      have ne12 : ((1, 0, 0) : Mt) ≠ (2, 0, 0) := by decide
      have ne21 : ((2, 0, 0) : Mt) ≠ (1, 0, 0) := by decide
      first
      | (have y1 : af = 1 := by assumption
         have y2 : ag = 1 := by assumption
         refine SL.TK.againD ih ⟨i + 1, Vc, by omega, by rw [xc, xa]; exact hV.vot.vot, ?_, ?_, rfl, rfl, rfl⟩ (by first | ((repeat (first | exact SL.Sub.nil | refine SL.Sub.cons (by rfl) (by first | rfl | exact SL.int_eq (by omega)) ?_)); done) | fail) (EntD.cons (by first | ((repeat (first | exact SL.Pick.head | apply SL.Pick.tail)); done) | fail) (EntD.cons (by first | ((repeat (first | exact SL.Pick.head | apply SL.Pick.tail)); done) | fail) (EntD.cons (by first | ((repeat (first | exact SL.Pick.head | apply SL.Pick.tail)); done) | fail) EntD.nil))) (by omega)
         · rw [xc, xa]; exact (hA.yes hV h7 (hf1 y1)).other hV.vot h7 ne21
         · rw [xc, xa]; exact (hB.other hV h7 ne12).yes hV.vot h7 (hg1 y2))
      | (have y1 : af = 1 := by assumption
         have y2 : ¬ ag = 1 := by assumption
         refine SL.TK.againD ih ⟨i + 1, Va, by omega, by rw [xa]; exact hV.vot, ?_, ?_, rfl, rfl, rfl⟩ (by first | ((repeat (first | exact SL.Sub.nil | refine SL.Sub.cons (by rfl) (by first | rfl | exact SL.int_eq (by omega)) ?_)); done) | fail) (EntD.cons (by first | ((repeat (first | exact SL.Pick.head | apply SL.Pick.tail)); done) | fail) (EntD.cons (by first | ((repeat (first | exact SL.Pick.head | apply SL.Pick.tail)); done) | fail) (EntD.cons (by first | ((repeat (first | exact SL.Pick.head | apply SL.Pick.tail)); done) | fail) EntD.nil))) (by omega)
         · rw [xa]; exact hA.yes hV h7 (hf1 y1)
         · rw [xa]; exact (hB.other hV h7 ne12).no (hg0 y2))
      | (have y1 : ¬ af = 1 := by assumption
         have y2 : ag = 1 := by assumption
         refine SL.TK.againD ih ⟨i + 1, Vb, by omega, by rw [xb]; exact hV.vot, ?_, ?_, rfl, rfl, rfl⟩ (by first | ((repeat (first | exact SL.Sub.nil | refine SL.Sub.cons (by rfl) (by first | rfl | exact SL.int_eq (by omega)) ?_)); done) | fail) (EntD.cons (by first | ((repeat (first | exact SL.Pick.head | apply SL.Pick.tail)); done) | fail) (EntD.cons (by first | ((repeat (first | exact SL.Pick.head | apply SL.Pick.tail)); done) | fail) (EntD.cons (by first | ((repeat (first | exact SL.Pick.head | apply SL.Pick.tail)); done) | fail) EntD.nil))) (by omega)
         · rw [xb]; exact (hA.other hV h7 ne21).no (hf0 y1)
         · rw [xb]; exact hB.yes hV h7 (hg1 y2))
      | (have y1 : ¬ af = 1 := by assumption
         have y2 : ¬ ag = 1 := by assumption
         refine SL.TK.againD ih ⟨i + 1, V, by omega, hV, hA.no (hf0 y1), hB.no (hg0 y2), rfl, rfl, rfl⟩ (by first | ((repeat (first | exact SL.Sub.nil | refine SL.Sub.cons (by rfl) (by first | rfl | exact SL.int_eq (by omega)) ?_)); done) | fail) (EntD.cons (by first | ((repeat (first | exact SL.Pick.head | apply SL.Pick.tail)); done) | fail) (EntD.cons (by first | ((repeat (first | exact SL.Pick.head | apply SL.Pick.tail)); done) | fail) (EntD.cons (by first | ((repeat (first | exact SL.Pick.head | apply SL.Pick.tail)); done) | fail) EntD.nil))) (by omega))
  · have hin : i = N := by omega
    subst hin
    clear ih
    have hMo := most_spec i (by omega)
    obtain ⟨M, hM⟩ : ∃ M, M = i / 2 + 1 := ⟨_, rfl⟩
    rw [← hM] at hMo
    have hca := Lib.hid (count_spec nb i V 1 0 0 hV)
    have hcb := Lib.hid (count_spec nb i V 2 0 0 hV)
    have hha := Lib.hid fun (j : Nat) => has_spec nb i V 1 0 0 (j : Int) hV
    have hhb := Lib.hid fun (j : Nat) => has_spec nb i V 2 0 0 (j : Int) hV
    have hcnt : cnt (1, 0, 0) V + cnt (2, 0, 0) V ≤ i + both V i := by
      rw [vtd_cnt hV hN2 hA, vtd_cnt hV hN2 hB]; exact count_both _ _ i
    have hc1 : cnt (1, 0, 0) V ≤ 7 := by rw [vtd_cnt hV hN2 hA]; exact Nat.le_trans (count_le _ i) hN2
    have hc2 : cnt (2, 0, 0) V ≤ 7 := by rw [vtd_cnt hV hN2 hB]; exact Nat.le_trans (count_le _ i) hN2
    obtain ⟨CA, hCA⟩ : ∃ x, x = cnt (1, 0, 0) V := ⟨_, rfl⟩
    obtain ⟨CB, hCB⟩ : ∃ x, x = cnt (2, 0, 0) V := ⟨_, rfl⟩
    rw [← hCA] at hca hcnt hc1
    rw [← hCB] at hcb hcnt hc2
    clear hA hB hCA hCB
    repeat' (first | (refine SL.TO.is ?_; first | (refine SL.TO.door (o := ⟨_, .call ⟨.value (.func 16), _, _⟩, _, _, _, _⟩) ?_; first | (refine SL.W.call (hMo) ?_; rintro _ _ ⟨rfl, rfl⟩; try simp only [List.cons_append, List.nil_append])) | refine SL.TO.nil ?_ | (refine SL.TO.nilD ?_; simp only [SL.setB]) | refine SL.W.pass ?_ | refine SL.W.pass0 ?_ | (refine SL.W.pure ?_; first | refine SL.W.pv ?_ | refine SL.W.pv0 ?_ | refine SL.W.lenMp ?_ | (refine SL.W.guardP (fun h => ?_) (fun h => ?_) <;> (fail_if_success (have : h = trivial := rfl)) <;> (fail_if_success (have : h = not_false := rfl)) <;> first | contradiction | (exfalso; omega) | (exfalso; revert h; simp; done) | skip) | (refine SL.W.guardB (fun h => ?_) (fun h => ?_) <;> (fail_if_success (have : h = (rfl : true = true) := rfl)) <;> (fail_if_success (have : h = (rfl : false = false) := rfl)))) | (refine SL.W.loud ?_; first | refine SL.W.load ?_ | refine SL.W.loadA ?_ | refine SL.W.store ?_ | refine SL.W.storeA ?_ | (refine SL.W.box ?_; intro b) | (refine SL.W.alloc ?_; intro b) | (refine SL.W.buildSlice ?_; intro b) | (refine SL.W.append ?_; intro a cap) | refine SL.W.bytesToStr ?_ | refine SL.W.pvn (SL.PV.toIntC (by rfl) (by first | exact SL.wrap_i64 (by omega) | exact SL.wrap_u8 (by omega) | exact SL.wrap_u32 (by omega) | exact SL.wrap_u64 (by omega) | rfl)) ?_ | (refine SL.W.makeSlice ?_; intro b) | refine SL.W.lookupOk ?_ | refine SL.W.lookup ?_ | (refine SL.W.makeMap ?_; intro b) | refine SL.W.mapUpdate ?_ | (refine SL.W.mapEntry ?_; intro stamp) | refine SL.W.entryStore ?_ | (refine SL.W.range ?_; intro it) | refine SL.W.delete ?_ | (refine SL.W.guardP (fun h => ?_) (fun h => ?_) <;> (fail_if_success (have : h = trivial := rfl)) <;> (fail_if_success (have : h = not_false := rfl)) <;> first | contradiction | (exfalso; omega) | (exfalso; revert h; simp; done) | skip) | (refine SL.W.guardB (fun h => ?_) (fun h => ?_) <;> (fail_if_success (have : h = (rfl : true = true) := rfl)) <;> (fail_if_success (have : h = (rfl : false = false) := rfl))))) | (refine SL.TK.lp ?_; first | (refine SL.TK.block ?_; refine SL.TK.loopD (vc1 nb pa b i M V) ?_ ⟨0, Nat.zero_le _, rfl, rfl, rfl⟩ (by first | ((repeat (first | exact SL.Sub.nil | refine SL.Sub.cons (by rfl) (by first | rfl | exact SL.int_eq (by omega)) ?_)); done) | fail) (EntD.cons (by first | ((repeat (first | exact SL.Pick.head | apply SL.Pick.tail)); done) | fail) (EntD.cons (by first | ((repeat (first | exact SL.Pick.head | apply SL.Pick.tail)); done) | fail) (EntD.cons (by first | ((repeat (first | exact SL.Pick.head | apply SL.Pick.tail)); done) | fail) EntD.nil))))) | (refine SL.TK.is ?_; first | refine SL.TK.seq ?_ | refine SL.TK.region ?_ | refine SL.TK.regionD SL.mixed (by simp only [SL.falses] <;> rfl) ?_ | refine SL.TK.block ?_ | refine SL.TK.inBlock ?_ | refine SL.TK.skip ?_ | refine SL.TK.scope ?_ | refine SL.TK.inScope ?_ | refine SL.TK.label ?_ | refine SL.W.exit ?_ | refine SL.W.condT ?_ | refine SL.W.condF ?_ | (refine SL.W.condP (fun h => ?_) (fun h => ?_) <;> (fail_if_success (have : h = trivial := rfl)) <;> (fail_if_success (have : h = not_false := rfl)) <;> first | contradiction | (exfalso; omega) | (exfalso; revert h; simp; done) | skip) | refine SL.W.condB (fun h => ?_) (fun h => ?_)) | (refine SL.TD.is ?_; first | (refine SL.W.dfin ?_; simp only [List.append_nil, List.cons_append, List.nil_append]) | refine SL.W.dpass ?_ | refine SL.W.dpure ?_ | refine SL.W.dload ?_ | refine SL.W.dloadA ?_ | refine SL.W.dfrz ?_ | (refine SL.W.dthaw ?_; simp only [List.append_nil, List.cons_append, List.nil_append]) | (refine SL.W.dguardP (fun h => ?_) (fun h => ?_) <;> (fail_if_success (have : h = trivial := rfl)) <;> (fail_if_success (have : h = not_false := rfl)) <;> first | contradiction | (exfalso; omega) | (exfalso; revert h; simp; done) | skip) | (refine SL.W.dguardB (fun h => ?_) (fun h => ?_) <;> (fail_if_success (have : h = (rfl : true = true) := rfl)) <;> (fail_if_success (have : h = (rfl : false = false) := rfl))) | refine SL.W.done ?_ | refine SL.W.dtwo ?_ ?_ | refine SL.W.dthree ?_ ?_ ?_))
    rintro ρ L m ⟨j, hj, rfl, rfl, rfl⟩ ih
    by_cases hlt2 : j < i
    · have h1 := hha.out j
      have h2 := hhb.out j
      rw [mem_vt] at h1 h2
      have hst : both V (j + 1) = both V j + if vt (1, 0, 0) j V && vt (2, 0, 0) j V then 1 else 0 := count_succ _ j
      have hbl := both_le V j
      obtain ⟨ta, hta⟩ : ∃ x, x = vt (1, 0, 0) j V := ⟨_, rfl⟩
      obtain ⟨tb, htb⟩ : ∃ x, x = vt (2, 0, 0) j V := ⟨_, rfl⟩
      obtain ⟨K, hK⟩ : ∃ x, x = both V j := ⟨_, rfl⟩
      rw [← hta] at h1 hst
      rw [← htb] at h2 hst
      rw [← hK] at hst hbl ⊢
      have hsH := Lib.hid hst
      clear hta htb hK hst hca hcb hha hhb hcnt hMo hM hW
      repeat' (first | (refine SL.TO.is ?_; first | (refine SL.TO.door (o := ⟨_, .call ⟨.value (.func 21), _, _⟩, _, _, _, _⟩) ?_; first | (refine SL.W.call (h1) ?_; rintro _ _ ⟨rfl, rfl⟩; try simp only [List.cons_append, List.nil_append]) | (refine SL.W.call (h2) ?_; rintro _ _ ⟨rfl, rfl⟩; try simp only [List.cons_append, List.nil_append])) | refine SL.TO.nil ?_ | (refine SL.TO.nilD ?_; simp only [SL.setB]) | refine SL.W.pass ?_ | refine SL.W.pass0 ?_ | (refine SL.W.pure ?_; first | refine SL.W.pv ?_ | refine SL.W.pv0 ?_ | refine SL.W.lenMp ?_ | (refine SL.W.guardP (fun h => ?_) (fun h => ?_) <;> (fail_if_success (have : h = trivial := rfl)) <;> (fail_if_success (have : h = not_false := rfl)) <;> first | contradiction | (exfalso; omega) | (exfalso; revert h; simp; done) | skip) | (refine SL.W.guardB (fun h => ?_) (fun h => ?_) <;> (fail_if_success (have : h = (rfl : true = true) := rfl)) <;> (fail_if_success (have : h = (rfl : false = false) := rfl)))) | (refine SL.W.loud ?_; first | refine SL.W.load ?_ | refine SL.W.loadA ?_ | refine SL.W.store ?_ | refine SL.W.storeA ?_ | (refine SL.W.box ?_; intro b) | (refine SL.W.alloc ?_; intro b) | (refine SL.W.buildSlice ?_; intro b) | (refine SL.W.append ?_; intro a cap) | refine SL.W.bytesToStr ?_ | refine SL.W.pvn (SL.PV.toIntC (by rfl) (by first | exact SL.wrap_i64 (by omega) | exact SL.wrap_u8 (by omega) | exact SL.wrap_u32 (by omega) | exact SL.wrap_u64 (by omega) | rfl)) ?_ | (refine SL.W.makeSlice ?_; intro b) | refine SL.W.lookupOk ?_ | refine SL.W.lookup ?_ | (refine SL.W.makeMap ?_; intro b) | refine SL.W.mapUpdate ?_ | (refine SL.W.mapEntry ?_; intro stamp) | refine SL.W.entryStore ?_ | (refine SL.W.range ?_; intro it) | refine SL.W.delete ?_ | (refine SL.W.guardP (fun h => ?_) (fun h => ?_) <;> (fail_if_success (have : h = trivial := rfl)) <;> (fail_if_success (have : h = not_false := rfl)) <;> first | contradiction | (exfalso; omega) | (exfalso; revert h; simp; done) | skip) | (refine SL.W.guardB (fun h => ?_) (fun h => ?_) <;> (fail_if_success (have : h = (rfl : true = true) := rfl)) <;> (fail_if_success (have : h = (rfl : false = false) := rfl))))) | (refine SL.TK.is ?_; first | refine SL.TK.seq ?_ | refine SL.TK.region ?_ | refine SL.TK.regionD SL.mixed (by simp only [SL.falses] <;> rfl) ?_ | refine SL.TK.block ?_ | refine SL.TK.inBlock ?_ | refine SL.TK.skip ?_ | refine SL.TK.scope ?_ | refine SL.TK.inScope ?_ | refine SL.TK.label ?_ | refine SL.W.exit ?_ | refine SL.W.condT ?_ | refine SL.W.condF ?_ | (refine SL.W.condP (fun h => ?_) (fun h => ?_) <;> (fail_if_success (have : h = trivial := rfl)) <;> (fail_if_success (have : h = not_false := rfl)) <;> first | contradiction | (exfalso; omega) | (exfalso; revert h; simp; done) | skip) | refine SL.W.condB (fun h => ?_) (fun h => ?_)) | (refine SL.TD.is ?_; first | (refine SL.W.dfin ?_; simp only [List.append_nil, List.cons_append, List.nil_append]) | refine SL.W.dpass ?_ | refine SL.W.dpure ?_ | refine SL.W.dload ?_ | refine SL.W.dloadA ?_ | refine SL.W.dfrz ?_ | (refine SL.W.dthaw ?_; simp only [List.append_nil, List.cons_append, List.nil_append]) | (refine SL.W.dguardP (fun h => ?_) (fun h => ?_) <;> (fail_if_success (have : h = trivial := rfl)) <;> (fail_if_success (have : h = not_false := rfl)) <;> first | contradiction | (exfalso; omega) | (exfalso; revert h; simp; done) | skip) | (refine SL.W.dguardB (fun h => ?_) (fun h => ?_) <;> (fail_if_success (have : h = (rfl : true = true) := rfl)) <;> (fail_if_success (have : h = (rfl : false = false) := rfl))) | refine SL.W.done ?_ | refine SL.W.dtwo ?_ ?_ | refine SL.W.dthree ?_ ?_ ?_))
      all_goals
        refine SL.TK.againD ih ⟨j + 1, by omega, rfl, rfl, rfl⟩ (SL.Sub.cons (by rfl) rfl (SL.Sub.cons (by rfl) rfl (SL.Sub.cons (by rfl) rfl (SL.Sub.cons (by rfl) rfl (SL.Sub.cons (by rfl) rfl (SL.Sub.cons (by rfl) (int_eq (by rw [hsH.out]; simp_all)) (SL.Sub.cons (by rfl) (int_eq (by omega)) SL.Sub.nil))))))) (EntD.cons (by first | ((repeat (first | exact SL.Pick.head | apply SL.Pick.tail)); done) | fail) (EntD.cons (by first | ((repeat (first | exact SL.Pick.head | apply SL.Pick.tail)); done) | fail) (EntD.cons (by first | ((repeat (first | exact SL.Pick.head | apply SL.Pick.tail)); done) | fail) EntD.nil))) (by omega)
    · have hjn : j = i := by omega
      subst hjn
      have hbl := both_le V j
      obtain ⟨K, hK⟩ : ∃ x, x = both V j := ⟨_, rfl⟩
      rw [← hK] at hcnt hbl ⊢
      clear ih hha hhb hMo hK
      repeat' (first | (refine SL.TO.is ?_; first | (refine SL.TO.door (o := ⟨_, .call ⟨.value (.func 22), _, _⟩, _, _, _, _⟩) ?_; first | (refine SL.W.call (hca.out) ?_; rintro _ _ ⟨rfl, rfl⟩; try simp only [List.cons_append, List.nil_append]) | (refine SL.W.call (hcb.out) ?_; rintro _ _ ⟨rfl, rfl⟩; try simp only [List.cons_append, List.nil_append])) | (refine SL.TO.door (o := ⟨_, .call ⟨.value (.func 18), _, _⟩, _, _, _, _⟩) ?_; first | (refine SL.W.call (hW.out) ?_; rintro _ _ ⟨rfl, rfl⟩; try simp only [List.cons_append, List.nil_append])) | refine SL.TO.nil ?_ | (refine SL.TO.nilD ?_; simp only [SL.setB]) | refine SL.W.pass ?_ | refine SL.W.pass0 ?_ | (refine SL.W.pure ?_; first | refine SL.W.pv ?_ | refine SL.W.pv0 ?_ | refine SL.W.lenMp ?_ | (refine SL.W.guardP (fun h => ?_) (fun h => ?_) <;> (fail_if_success (have : h = trivial := rfl)) <;> (fail_if_success (have : h = not_false := rfl)) <;> first | contradiction | (exfalso; omega) | (exfalso; revert h; simp; done) | skip) | (refine SL.W.guardB (fun h => ?_) (fun h => ?_) <;> (fail_if_success (have : h = (rfl : true = true) := rfl)) <;> (fail_if_success (have : h = (rfl : false = false) := rfl)))) | (refine SL.W.loud ?_; first | refine SL.W.load ?_ | refine SL.W.loadA ?_ | refine SL.W.store ?_ | refine SL.W.storeA ?_ | (refine SL.W.box ?_; intro b) | (refine SL.W.alloc ?_; intro b) | (refine SL.W.buildSlice ?_; intro b) | (refine SL.W.append ?_; intro a cap) | refine SL.W.bytesToStr ?_ | refine SL.W.pvn (SL.PV.toIntC (by rfl) (by first | exact SL.wrap_i64 (by omega) | exact SL.wrap_u8 (by omega) | exact SL.wrap_u32 (by omega) | exact SL.wrap_u64 (by omega) | rfl)) ?_ | (refine SL.W.makeSlice ?_; intro b) | refine SL.W.lookupOk ?_ | refine SL.W.lookup ?_ | (refine SL.W.makeMap ?_; intro b) | refine SL.W.mapUpdate ?_ | (refine SL.W.mapEntry ?_; intro stamp) | refine SL.W.entryStore ?_ | (refine SL.W.range ?_; intro it) | refine SL.W.delete ?_ | (refine SL.W.guardP (fun h => ?_) (fun h => ?_) <;> (fail_if_success (have : h = trivial := rfl)) <;> (fail_if_success (have : h = not_false := rfl)) <;> first | contradiction | (exfalso; omega) | (exfalso; revert h; simp; done) | skip) | (refine SL.W.guardB (fun h => ?_) (fun h => ?_) <;> (fail_if_success (have : h = (rfl : true = true) := rfl)) <;> (fail_if_success (have : h = (rfl : false = false) := rfl))))) | (refine SL.TK.is ?_; first | refine SL.TK.seq ?_ | refine SL.TK.region ?_ | refine SL.TK.regionD SL.mixed (by simp only [SL.falses] <;> rfl) ?_ | refine SL.TK.block ?_ | refine SL.TK.inBlock ?_ | refine SL.TK.skip ?_ | refine SL.TK.scope ?_ | refine SL.TK.inScope ?_ | refine SL.TK.label ?_ | refine SL.W.exit ?_ | refine SL.W.condT ?_ | refine SL.W.condF ?_ | (refine SL.W.condP (fun h => ?_) (fun h => ?_) <;> (fail_if_success (have : h = trivial := rfl)) <;> (fail_if_success (have : h = not_false := rfl)) <;> first | contradiction | (exfalso; omega) | (exfalso; revert h; simp; done) | skip) | refine SL.W.condB (fun h => ?_) (fun h => ?_)) | (refine SL.TD.is ?_; first | (refine SL.W.dfin ?_; simp only [List.append_nil, List.cons_append, List.nil_append]) | refine SL.W.dpass ?_ | refine SL.W.dpure ?_ | refine SL.W.dload ?_ | refine SL.W.dloadA ?_ | refine SL.W.dfrz ?_ | (refine SL.W.dthaw ?_; simp only [List.append_nil, List.cons_append, List.nil_append]) | (refine SL.W.dguardP (fun h => ?_) (fun h => ?_) <;> (fail_if_success (have : h = trivial := rfl)) <;> (fail_if_success (have : h = not_false := rfl)) <;> first | contradiction | (exfalso; omega) | (exfalso; revert h; simp; done) | skip) | (refine SL.W.dguardB (fun h => ?_) (fun h => ?_) <;> (fail_if_success (have : h = (rfl : true = true) := rfl)) <;> (fail_if_success (have : h = (rfl : false = false) := rfl))) | refine SL.W.done ?_ | refine SL.W.dtwo ?_ ?_ | refine SL.W.dthree ?_ ?_ ?_))
      all_goals exact SL.TK.retD Try.func5 (SL.Res.one rfl (by rfl)) ⟨rfl, rfl⟩ EntD.nil
theorem u8_wf {z : Int} (h : (Lit.int .u8 z).wf = true) : 0 ≤ z ∧ z ≤ 255 := by
  simp [Lit.wf, IntKind.min, IntKind.max, IntKind.signed, IntKind.bits] at h
  omega
end SL

namespace Go.Proofs.Ytjnlkljmaiddnaa.votesCommon
open Go.ChangeShapes Go.WideShapes Go.ChangeAt Go.RowKit

theorem own : ownKnob Try.prog.godebug = none := by kernel_rfl
theorem laid : laidOutB Try.prog = true := by kernel_rfl

theorem contract (H : Type) (enc : TypeId × Value → H) (W : World) (base : Nat) (args : Array Value) (ds gs : List (DataW H)) (before : List MemPlace)
    (hval : ∀ (j : Nat) t v, Try.f5.params[j]? = some t → args[j]? = some v → Value.okWide Try.prog W .any base t v)
    (hW : DataW.Whole enc Try.prog Try.f5.params.toList Rows.votesCommonSpec.vars false W args.toList ds gs before) :
    Calls Try.prog 5 args W fun e W' => ∃ v, e = .returned v ∧ Rows.votesCommonSpec.post enc Try.prog Try.f5 false true false false W args v W' := by
  have hW' := hW
  obtain ⟨p, q, hA0, hV, rfl, hfz, hnd⟩ := hW
  have hA : DataW.TrodAll enc Try.prog W 0 (fun _ => true) true Try.f5.params.toList args.toList ds p := hA0
  rw [Try.params5] at hA hval
  obtain ⟨v0, vs0, d0, ds0, p0, q0, hargs, rfl, rfl, h0, r0⟩ := trodAll_cons hA
  obtain ⟨v1, vs1, d1, ds1, p1, q1, rfl, rfl, rfl, h1, r1⟩ := trodAll_cons r0
  obtain ⟨v2, vs2, d2, ds2, p2, q2, rfl, rfl, rfl, h2, r2⟩ := trodAll_cons r1
  obtain ⟨rfl, rfl, rfl⟩ := trodAll_nil r2
  obtain rfl : args = #[v0, v1, v2] := by cases args; simp_all
  obtain ⟨rfl, rfl⟩ := trodVars_none hV
  refine SL.law_calls (ds := [d0, d1, d2]) (gs := []) laid (by kernel_rfl) rfl rfl rfl (by kernel_rfl) hW' ?_
  obtain ⟨z, rfl, _, _, hz⟩ := open_int Try.underlying5 (hval 0 5 v0 rfl rfl) h0
  obtain ⟨f, rfl, _, _, hf⟩ := open_int Try.underlying5 (hval 1 5 v1 rfl rfl) h1
  obtain ⟨g, rfl, _, _, hg⟩ := open_int Try.underlying5 (hval 2 5 v2 rfl rfl) h2
  exact SL.Spec.framed0 (SL.common_spec z f g (SL.u8_wf hz) (SL.u8_wf hf) (SL.u8_wf hg))

set_option maxRecDepth 100000 in
theorem lifted (os : Os) (started : os.Started) (H : Type) (enc : TypeId × Value → H) :
    ReturnsInHanded {} Try.checked os 5 .any (Rows.votesCommonSpec.pre6 enc Try.prog Try.f5 [] false) (Rows.votesCommonSpec.post enc Try.prog Try.f5 false true false false) := by
  refine returnsInHanded_of_change own started (by kernel_rfl) Try.func5
    (ChangeSpec.witness6 false ⟨#[], #[.int .u8 0, .int .u8 0, .int .u8 0], []⟩ 8 (by kernel_rfl) (by kernel_rfl) (by kernel_rfl) (by kernel_rfl)) ?_
  intro W base args ds gs before hval hW _ _
  exact contract H enc W base args ds gs before hval hW

theorem proved : Rows.VotesCommonSaid :=
  OpenClaim.holds_of_wide 5 Try.f5 rfl rfl rfl rfl rfl rfl rfl ⟨rfl, rfl, rfl, rfl, rfl⟩ rfl rfl rfl rfl rfl (by kernel_rfl) Try.func5 (by kernel_rfl)
    (of_decide_eq_true (by kernel_rfl)) (by unfold Func.isWrapper; first | (rw [if_pos (by decide +kernel)]; kernel_rfl) | (rw [if_neg (by decide +kernel)]; exact ⟨rfl, rfl⟩))
    (fun os started H enc _ => lifted os started H enc)
end Go.Proofs.Ytjnlkljmaiddnaa.votesCommon
