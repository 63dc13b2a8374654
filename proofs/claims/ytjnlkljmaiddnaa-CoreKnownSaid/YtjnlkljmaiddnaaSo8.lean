/-
  Sorting: siftDown.
-/
import Derived.Test.YtjnlkljmaiddnaaSo7
set_option linter.unusedVariables false
set_option linter.unusedSimpArgs false
set_option maxRecDepth 10000

namespace SL
open Go Go.Proofs Go.RowKit

/-- a swap, in cells: two numbers are read, two are written -/
theorem swpF {ys : List Int} {ex : List Value} {p q : Nat} (hp : p < ys.length) (hq : q < ys.length) :
    ∃ vp vq zs, vp = nat_ ys p ∧ vq = nat_ ys q ∧ zs = swp ys p q ∧ nth (ys.map iv ++ ex) p = some (iv vp) ∧ nth (ys.map iv ++ ex) q = some (iv vq) ∧
      PutAt (ys.map iv ++ ex) p [iv vq] ((ys.set p vq).map iv ++ ex) ∧ PutAt ((ys.set p vq).map iv ++ ex) q [iv vp] (zs.map iv ++ ex) :=
  ⟨_, _, _, rfl, rfl, rfl, nth_ints hp, nth_ints hq, put_int hp _, put_int (by simpa using hq) _⟩
attribute [local irreducible] SL.TK SL.TO SL.TD SL.PV SL.Pick SL.Frm SL.Ent SL.Sub SL.EvAll SL.seps SL.sep SL.Cut SL.PutAt SL.blk SL.EvP SL.Fill SL.Src SL.EntD SL.own SL.ex SL.fact SL.orig

def siftIn (bk n cap f lo hi : Nat) (ex : List Value) (xs : List Int) (ρ : Env) (L : List HProp) (m : Nat) : Prop := ∃ (r : Nat) (ys : List Int), lo ≤ r ∧ r ≤ hi ∧ Sw f (f + hi) xs ys ∧ HpBut ys f lo hi r ∧
  ρ = [(0, .slice (some ⟨bk, 0, none⟩) n cap), (2, .int .i64 hi), (3, .int .i64 f), (8, .int .i64 r)] ∧ L = [row bk ys ex] ∧ m = hi + 1 - r
set_option maxHeartbeats 1000000 in
theorem sift_spec (bk n cap lo hi f : Nat) (ex : List Value) (xs : List Int) (hn : xs.length = n) (hc : n ≤ cap) (hcl : n ≤ 1000000) (hlo : lo ≤ hi) (hb : f + hi ≤ n) (hh : Hpp xs f (lo + 1) hi) :
    Spec Try.prog 112 [.slice (some ⟨bk, 0, none⟩) n cap, .int .i64 lo, .int .i64 hi, .int .i64 f] [row bk xs ex] (fun r L => r = .tuple #[] ∧ ∃ ys, Sw f (f + hi) xs ys ∧ Hpp ys f lo hi ∧ L = [row bk ys ex]) := by
  have hB := Lib.hid (HpBut.of hh)
  have hnH := Lib.hid hn
  clear hh
  refine SL.Spec.of_TK Go.Proofs.Try.func112 rfl rfl SL.call112 rfl ?_
  repeat' (first | (refine SL.TO.is ?_; first | (refine SL.W.quick ?_; first | refine SL.W.pass ?_ | refine SL.W.pv ?_ | refine SL.W.pv0 ?_) | refine SL.TO.nil ?_ | (refine SL.TO.nilD ?_; simp only [SL.setB]) | refine SL.W.pass ?_ | refine SL.W.pass0 ?_ | (refine SL.W.pure ?_; first | refine SL.W.pv ?_ | refine SL.W.pv0 ?_) | (refine SL.W.loud ?_; first | refine SL.W.load ?_ | refine SL.W.loadA ?_ | refine SL.W.store ?_ | refine SL.W.storeA ?_ | (refine SL.W.box ?_; intro b) | (refine SL.W.alloc ?_; intro b) | (refine SL.W.buildSlice ?_; intro b) | (refine SL.W.append ?_; intro a cap) | refine SL.W.bytesToStr ?_ | refine SL.W.pvn (SL.PV.toIntC (by rfl) (by first | exact SL.wrap_i64 (by omega) | exact SL.wrap_u8 (by omega) | exact SL.wrap_u32 (by omega) | exact SL.wrap_u64 (by omega) | rfl)) ?_ | (refine SL.W.makeSlice ?_; intro b)) | (refine SL.W.guardP (fun h => ?_) (fun h => ?_) <;> (fail_if_success (have : h = trivial := rfl)) <;> (fail_if_success (have : h = not_false := rfl)) <;> first | contradiction | (exfalso; omega) | (exfalso; revert h; simp; done) | skip) | (refine SL.W.guardB (fun h => ?_) (fun h => ?_) <;> (fail_if_success (have : h = (rfl : true = true) := rfl)) <;> (fail_if_success (have : h = (rfl : false = false) := rfl)))) | (refine SL.TK.lp ?_; first | (refine SL.TK.block ?_; refine SL.TK.loopD (siftIn bk n cap f lo hi ex xs) ?_ ⟨lo, xs, Nat.le_refl _, hlo, .refl _, hB.out, rfl, rfl, rfl⟩ (by first | ((repeat (first | exact SL.Sub.nil | refine SL.Sub.cons (by rfl) (by first | rfl | exact SL.int_eq (by omega)) ?_)); done) | fail) EntD.refl)) | (refine SL.TK.is ?_; first | refine SL.TK.seq ?_ | refine SL.TK.region ?_ | refine SL.TK.regionD SL.mixed (by simp only [SL.falses] <;> rfl) ?_ | refine SL.TK.block ?_ | refine SL.TK.inBlock ?_ | refine SL.TK.skip ?_ | refine SL.TK.scope ?_ | refine SL.TK.inScope ?_ | refine SL.TK.label ?_ | (refine SL.TK.isExit ?_; refine SL.W.exit ?_) | refine SL.W.condT ?_ | refine SL.W.condF ?_ | (refine SL.W.condP (fun h => ?_) (fun h => ?_) <;> (fail_if_success (have : h = trivial := rfl)) <;> (fail_if_success (have : h = not_false := rfl)) <;> first | contradiction | (exfalso; omega) | (exfalso; revert h; simp; done) | skip) | refine SL.W.condB (fun h => ?_) (fun h => ?_)) | (refine SL.TD.is ?_; first | (refine SL.W.dfin ?_; simp only [List.append_nil, List.cons_append, List.nil_append]) | refine SL.W.dpass ?_ | refine SL.W.dpure ?_ | refine SL.W.dload ?_ | refine SL.W.dloadA ?_ | refine SL.W.dfrz ?_ | (refine SL.W.dthaw ?_; simp only [List.append_nil, List.cons_append, List.nil_append]) | (refine SL.W.dguardP (fun h => ?_) (fun h => ?_) <;> (fail_if_success (have : h = trivial := rfl)) <;> (fail_if_success (have : h = not_false := rfl)) <;> first | contradiction | (exfalso; omega) | (exfalso; revert h; simp; done) | skip) | (refine SL.W.dguardB (fun h => ?_) (fun h => ?_) <;> (fail_if_success (have : h = (rfl : true = true) := rfl)) <;> (fail_if_success (have : h = (rfl : false = false) := rfl))) | refine SL.W.done ?_ | refine SL.W.dtwo ?_ ?_ | refine SL.W.dthree ?_ ?_ ?_))
  clear hB hn
  rintro ρ L m ⟨r, ys, hlr, hrh, hsw, hst, rfl, rfl, rfl⟩ ih
  have hyl : ys.length = n := by rw [hsw.length, hnH.out]
  have hS := Lib.hid (And.intro hsw hst)
  clear hsw hst
  obtain ⟨c, hcd⟩ : ∃ c, c = 2 * r + 1 := ⟨_, rfl⟩
  have hsl : Value.int .i64 (2 * (r : Int) + 1) = .int .i64 (c : Int) := by subst hcd; exact int_eq (by omega)
  by_cases hch : c < hi
  · obtain ⟨vr, vc, zc, evr, evc, ezc, nr, ncc, p1c, p2c⟩ := swpF (ys := ys) (ex := ex) (p := f + r) (q := f + c) (by omega) (by omega)
    have hl1 := less_spec vr vc
    have hEC := Lib.hid (And.intro evr (And.intro evc ezc))
    by_cases hd : c + 1 < hi
    · obtain ⟨vr', vd, zd, evr', evd, ezd, nr', nd, p1d, p2d⟩ := swpF (ys := ys) (ex := ex) (p := f + r) (q := f + (c + 1)) (by omega) (by omega)
      obtain rfl : vr = vr' := by rw [evr, evr']
      have hl2 := less_spec vr vd
      have hl3 := less_spec vc vd
      have hED := Lib.hid (And.intro evd ezd)
      have stepC : Hid (vr < vc → vd ≤ vc → Sw f (f + hi) xs zc ∧ HpBut zc f lo hi c) := Lib.hid fun h1 h2 => by
        obtain ⟨e1, e2, e3⟩ := hEC.out
        rw [e3]
        refine ⟨.step _ _ hS.out.1 (by omega) (by omega) (by omega), hS.out.2.down hlr (by unfold kid; omega) hch (by omega) (by rw [← e1, ← e2]; exact h1) fun d hk hdh => ?_⟩
        have : d = c ∨ d = c + 1 := by unfold kid at hk; omega
        rcases this with rfl | rfl
        · exact Int.le_refl _
        · rw [← hED.out.1, ← e2]; exact h2
      have stepD : Hid (vr < vd → vc ≤ vd → Sw f (f + hi) xs zd ∧ HpBut zd f lo hi (c + 1)) := Lib.hid fun h1 h2 => by
        obtain ⟨e1, e2, e3⟩ := hEC.out
        obtain ⟨e4, e5⟩ := hED.out
        rw [e5]
        refine ⟨.step _ _ hS.out.1 (by omega) (by omega) (by omega), hS.out.2.down hlr (by unfold kid; omega) hd (by omega) (by rw [← e1, ← e4]; exact h1) fun d hk hdh => ?_⟩
        have : d = c ∨ d = c + 1 := by unfold kid at hk; omega
        rcases this with rfl | rfl
        · rw [← e4, ← e2]; exact h2
        · exact Int.le_refl _
      have doneC : Hid (vc ≤ vr → vd ≤ vr → Hpp ys f lo hi) := Lib.hid fun h1 h2 => hS.out.2.done fun d hk hdh => by
        obtain ⟨e1, e2, e3⟩ := hEC.out
        have : d = c ∨ d = c + 1 := by unfold kid at hk; omega
        rcases this with rfl | rfl
        · rw [← e1, ← e2]; exact h1
        · rw [← e1, ← hED.out.1]; exact h2
      clear evr evc ezc evr' evd ezd
      repeat' (first | (refine SL.TO.is ?_; first | (refine SL.W.quick ?_; first | refine SL.W.pass ?_ | refine SL.W.pv ?_ | refine SL.W.pv0 ?_) | (refine SL.TO.door (o := ⟨_, .call _, _, _, _, _⟩) ?_; first | (refine SL.TO.door (o := ⟨_, .call ⟨.value (.func 107), _, _⟩, _, _, _, _⟩) ?_; first | (refine SL.W.call (hl3) ?_; rintro _ _ ⟨rfl, rfl⟩; try simp only [List.cons_append, List.nil_append]) | (refine SL.W.call (hl1) ?_; rintro _ _ ⟨rfl, rfl⟩; try simp only [List.cons_append, List.nil_append]) | (refine SL.W.call (hl2) ?_; rintro _ _ ⟨rfl, rfl⟩; try simp only [List.cons_append, List.nil_append]))) | (refine SL.TO.door (o := ⟨_, .load _ _, _, _, _, _⟩) ?_; first | refine SL.W.loadN nr ?_ | refine SL.W.loadN ncc ?_ | refine SL.W.loadN nd ?_) | (refine SL.TO.door (o := ⟨_, .store _ _ _, _, _, _, _⟩) ?_; first | refine SL.W.storeN p1c ?_ | refine SL.W.storeN p2c ?_ | refine SL.W.storeN p1d ?_ | refine SL.W.storeN p2d ?_) | refine SL.TO.nil ?_ | (refine SL.TO.nilD ?_; simp only [SL.setB]) | refine SL.W.pass ?_ | refine SL.W.pass0 ?_ | (refine SL.W.pure ?_; first | refine SL.W.pv ?_ | refine SL.W.pv0 ?_) | (refine SL.W.loud ?_; first | refine SL.W.load ?_ | refine SL.W.loadA ?_ | refine SL.W.store ?_ | refine SL.W.storeA ?_ | (refine SL.W.box ?_; intro b) | (refine SL.W.alloc ?_; intro b) | (refine SL.W.buildSlice ?_; intro b) | (refine SL.W.append ?_; intro a cap) | refine SL.W.bytesToStr ?_ | refine SL.W.pvn (SL.PV.toIntC (by rfl) (by first | exact SL.wrap_i64 (by omega) | exact SL.wrap_u8 (by omega) | exact SL.wrap_u32 (by omega) | exact SL.wrap_u64 (by omega) | rfl)) ?_ | (refine SL.W.makeSlice ?_; intro b)) | (refine SL.W.guardP (fun h => ?_) (fun h => ?_) <;> (fail_if_success (have : h = trivial := rfl)) <;> (fail_if_success (have : h = not_false := rfl)) <;> first | contradiction | (exfalso; omega) | (exfalso; revert h; simp; done) | skip) | (refine SL.W.guardB (fun h => ?_) (fun h => ?_) <;> (fail_if_success (have : h = (rfl : true = true) := rfl)) <;> (fail_if_success (have : h = (rfl : false = false) := rfl)))) | (refine SL.TK.is ?_; first | refine SL.TK.slot (d := 9) (by rfl) hsl ?_ | refine SL.TK.seq ?_ | refine SL.TK.region ?_ | refine SL.TK.regionD SL.mixed (by simp only [SL.falses] <;> rfl) ?_ | refine SL.TK.block ?_ | refine SL.TK.inBlock ?_ | refine SL.TK.skip ?_ | refine SL.TK.scope ?_ | refine SL.TK.inScope ?_ | refine SL.TK.label ?_ | (refine SL.TK.isExit ?_; refine SL.W.exit ?_) | refine SL.W.condT ?_ | refine SL.W.condF ?_ | (refine SL.W.condP (fun h => ?_) (fun h => ?_) <;> (fail_if_success (have : h = trivial := rfl)) <;> (fail_if_success (have : h = not_false := rfl)) <;> first | contradiction | (exfalso; omega) | (exfalso; revert h; simp; done) | skip) | refine SL.W.condB (fun h => ?_) (fun h => ?_)) | (refine SL.TD.is ?_; first | refine SL.W.dloadN nr ?_ | refine SL.W.dloadN ncc ?_ | refine SL.W.dloadN nd ?_ | (refine SL.W.dfin ?_; simp only [List.append_nil, List.cons_append, List.nil_append]) | refine SL.W.dpass ?_ | refine SL.W.dpure ?_ | refine SL.W.dload ?_ | refine SL.W.dloadA ?_ | refine SL.W.dfrz ?_ | (refine SL.W.dthaw ?_; simp only [List.append_nil, List.cons_append, List.nil_append]) | (refine SL.W.dguardP (fun h => ?_) (fun h => ?_) <;> (fail_if_success (have : h = trivial := rfl)) <;> (fail_if_success (have : h = not_false := rfl)) <;> first | contradiction | (exfalso; omega) | (exfalso; revert h; simp; done) | skip) | (refine SL.W.dguardB (fun h => ?_) (fun h => ?_) <;> (fail_if_success (have : h = (rfl : true = true) := rfl)) <;> (fail_if_success (have : h = (rfl : false = false) := rfl))) | refine SL.W.done ?_ | refine SL.W.dtwo ?_ ?_ | refine SL.W.dthree ?_ ?_ ?_))
      all_goals
        first
        | exact SL.TK.retD Try.func112 (SL.Res.none rfl) ⟨rfl, ys, hS.out.1, doneC.out (by omega) (by omega), rfl⟩ EntD.refl
        | (have hX := stepD.out (by omega) (by omega); refine SL.TK.againD ih ⟨c + 1, zd, by omega, by omega, hX.1, hX.2, rfl, rfl, rfl⟩ (by first | ((repeat (first | exact SL.Sub.nil | refine SL.Sub.cons (by rfl) (by first | rfl | exact SL.int_eq (by omega)) ?_)); done) | fail) ?_ (by omega); exact EntD.refl)
        | (have hX := stepC.out (by omega) (by omega); refine SL.TK.againD ih ⟨c, zc, by omega, by omega, hX.1, hX.2, rfl, rfl, rfl⟩ (by first | ((repeat (first | exact SL.Sub.nil | refine SL.Sub.cons (by rfl) (by first | rfl | exact SL.int_eq (by omega)) ?_)); done) | fail) ?_ (by omega); exact EntD.refl)
    · have stepC : Hid (vr < vc → Sw f (f + hi) xs zc ∧ HpBut zc f lo hi c) := Lib.hid fun h1 => by
        obtain ⟨e1, e2, e3⟩ := hEC.out
        rw [e3]
        refine ⟨.step _ _ hS.out.1 (by omega) (by omega) (by omega), hS.out.2.down hlr (by unfold kid; omega) hch (by omega) (by rw [← e1, ← e2]; exact h1) fun d hk hdh => ?_⟩
        obtain rfl : d = c := by unfold kid at hk; omega
        exact Int.le_refl _
      have doneC : Hid (vc ≤ vr → Hpp ys f lo hi) := Lib.hid fun h1 => hS.out.2.done fun d hk hdh => by
        obtain ⟨e1, e2, e3⟩ := hEC.out
        obtain rfl : d = c := by unfold kid at hk; omega
        rw [← e1, ← e2]; exact h1
      clear evr evc ezc
      repeat' (first | (refine SL.TO.is ?_; first | (refine SL.W.quick ?_; first | refine SL.W.pass ?_ | refine SL.W.pv ?_ | refine SL.W.pv0 ?_) | (refine SL.TO.door (o := ⟨_, .call _, _, _, _, _⟩) ?_; first | (refine SL.TO.door (o := ⟨_, .call ⟨.value (.func 107), _, _⟩, _, _, _, _⟩) ?_; first | (refine SL.W.call (hl1) ?_; rintro _ _ ⟨rfl, rfl⟩; try simp only [List.cons_append, List.nil_append]))) | (refine SL.TO.door (o := ⟨_, .load _ _, _, _, _, _⟩) ?_; first | refine SL.W.loadN nr ?_ | refine SL.W.loadN ncc ?_) | (refine SL.TO.door (o := ⟨_, .store _ _ _, _, _, _, _⟩) ?_; first | refine SL.W.storeN p1c ?_ | refine SL.W.storeN p2c ?_) | refine SL.TO.nil ?_ | (refine SL.TO.nilD ?_; simp only [SL.setB]) | refine SL.W.pass ?_ | refine SL.W.pass0 ?_ | (refine SL.W.pure ?_; first | refine SL.W.pv ?_ | refine SL.W.pv0 ?_) | (refine SL.W.loud ?_; first | refine SL.W.load ?_ | refine SL.W.loadA ?_ | refine SL.W.store ?_ | refine SL.W.storeA ?_ | (refine SL.W.box ?_; intro b) | (refine SL.W.alloc ?_; intro b) | (refine SL.W.buildSlice ?_; intro b) | (refine SL.W.append ?_; intro a cap) | refine SL.W.bytesToStr ?_ | refine SL.W.pvn (SL.PV.toIntC (by rfl) (by first | exact SL.wrap_i64 (by omega) | exact SL.wrap_u8 (by omega) | exact SL.wrap_u32 (by omega) | exact SL.wrap_u64 (by omega) | rfl)) ?_ | (refine SL.W.makeSlice ?_; intro b)) | (refine SL.W.guardP (fun h => ?_) (fun h => ?_) <;> (fail_if_success (have : h = trivial := rfl)) <;> (fail_if_success (have : h = not_false := rfl)) <;> first | contradiction | (exfalso; omega) | (exfalso; revert h; simp; done) | skip) | (refine SL.W.guardB (fun h => ?_) (fun h => ?_) <;> (fail_if_success (have : h = (rfl : true = true) := rfl)) <;> (fail_if_success (have : h = (rfl : false = false) := rfl)))) | (refine SL.TK.is ?_; first | refine SL.TK.slot (d := 9) (by rfl) hsl ?_ | refine SL.TK.seq ?_ | refine SL.TK.region ?_ | refine SL.TK.regionD SL.mixed (by simp only [SL.falses] <;> rfl) ?_ | refine SL.TK.block ?_ | refine SL.TK.inBlock ?_ | refine SL.TK.skip ?_ | refine SL.TK.scope ?_ | refine SL.TK.inScope ?_ | refine SL.TK.label ?_ | (refine SL.TK.isExit ?_; refine SL.W.exit ?_) | refine SL.W.condT ?_ | refine SL.W.condF ?_ | (refine SL.W.condP (fun h => ?_) (fun h => ?_) <;> (fail_if_success (have : h = trivial := rfl)) <;> (fail_if_success (have : h = not_false := rfl)) <;> first | contradiction | (exfalso; omega) | (exfalso; revert h; simp; done) | skip) | refine SL.W.condB (fun h => ?_) (fun h => ?_)) | (refine SL.TD.is ?_; first | refine SL.W.dloadN nr ?_ | refine SL.W.dloadN ncc ?_ | (refine SL.W.dfin ?_; simp only [List.append_nil, List.cons_append, List.nil_append]) | refine SL.W.dpass ?_ | refine SL.W.dpure ?_ | refine SL.W.dload ?_ | refine SL.W.dloadA ?_ | refine SL.W.dfrz ?_ | (refine SL.W.dthaw ?_; simp only [List.append_nil, List.cons_append, List.nil_append]) | (refine SL.W.dguardP (fun h => ?_) (fun h => ?_) <;> (fail_if_success (have : h = trivial := rfl)) <;> (fail_if_success (have : h = not_false := rfl)) <;> first | contradiction | (exfalso; omega) | (exfalso; revert h; simp; done) | skip) | (refine SL.W.dguardB (fun h => ?_) (fun h => ?_) <;> (fail_if_success (have : h = (rfl : true = true) := rfl)) <;> (fail_if_success (have : h = (rfl : false = false) := rfl))) | refine SL.W.done ?_ | refine SL.W.dtwo ?_ ?_ | refine SL.W.dthree ?_ ?_ ?_))
      all_goals
        first
        | exact SL.TK.retD Try.func112 (SL.Res.none rfl) ⟨rfl, ys, hS.out.1, doneC.out (by omega), rfl⟩ EntD.refl
        | (have hX := stepC.out (by omega); refine SL.TK.againD ih ⟨c, zc, by omega, by omega, hX.1, hX.2, rfl, rfl, rfl⟩ (by first | ((repeat (first | exact SL.Sub.nil | refine SL.Sub.cons (by rfl) (by first | rfl | exact SL.int_eq (by omega)) ?_)); done) | fail) ?_ (by omega); exact EntD.refl)
  · have doneC := Lib.hid (hS.out.2.done fun d hk hdh => by unfold kid at hk; omega)
    clear ih
    repeat' (first | (refine SL.TO.is ?_; first | (refine SL.W.quick ?_; first | refine SL.W.pass ?_ | refine SL.W.pv ?_ | refine SL.W.pv0 ?_) | refine SL.TO.nil ?_ | (refine SL.TO.nilD ?_; simp only [SL.setB]) | refine SL.W.pass ?_ | refine SL.W.pass0 ?_ | (refine SL.W.pure ?_; first | refine SL.W.pv ?_ | refine SL.W.pv0 ?_) | (refine SL.W.loud ?_; first | refine SL.W.load ?_ | refine SL.W.loadA ?_ | refine SL.W.store ?_ | refine SL.W.storeA ?_ | (refine SL.W.box ?_; intro b) | (refine SL.W.alloc ?_; intro b) | (refine SL.W.buildSlice ?_; intro b) | (refine SL.W.append ?_; intro a cap) | refine SL.W.bytesToStr ?_ | refine SL.W.pvn (SL.PV.toIntC (by rfl) (by first | exact SL.wrap_i64 (by omega) | exact SL.wrap_u8 (by omega) | exact SL.wrap_u32 (by omega) | exact SL.wrap_u64 (by omega) | rfl)) ?_ | (refine SL.W.makeSlice ?_; intro b)) | (refine SL.W.guardP (fun h => ?_) (fun h => ?_) <;> (fail_if_success (have : h = trivial := rfl)) <;> (fail_if_success (have : h = not_false := rfl)) <;> first | contradiction | (exfalso; omega) | (exfalso; revert h; simp; done) | skip) | (refine SL.W.guardB (fun h => ?_) (fun h => ?_) <;> (fail_if_success (have : h = (rfl : true = true) := rfl)) <;> (fail_if_success (have : h = (rfl : false = false) := rfl)))) | (refine SL.TK.is ?_; first | refine SL.TK.slot (d := 9) (by rfl) hsl ?_ | refine SL.TK.seq ?_ | refine SL.TK.region ?_ | refine SL.TK.regionD SL.mixed (by simp only [SL.falses] <;> rfl) ?_ | refine SL.TK.block ?_ | refine SL.TK.inBlock ?_ | refine SL.TK.skip ?_ | refine SL.TK.scope ?_ | refine SL.TK.inScope ?_ | refine SL.TK.label ?_ | (refine SL.TK.isExit ?_; refine SL.W.exit ?_) | refine SL.W.condT ?_ | refine SL.W.condF ?_ | (refine SL.W.condP (fun h => ?_) (fun h => ?_) <;> (fail_if_success (have : h = trivial := rfl)) <;> (fail_if_success (have : h = not_false := rfl)) <;> first | contradiction | (exfalso; omega) | (exfalso; revert h; simp; done) | skip) | refine SL.W.condB (fun h => ?_) (fun h => ?_)) | (refine SL.TD.is ?_; first | (refine SL.W.dfin ?_; simp only [List.append_nil, List.cons_append, List.nil_append]) | refine SL.W.dpass ?_ | refine SL.W.dpure ?_ | refine SL.W.dload ?_ | refine SL.W.dloadA ?_ | refine SL.W.dfrz ?_ | (refine SL.W.dthaw ?_; simp only [List.append_nil, List.cons_append, List.nil_append]) | (refine SL.W.dguardP (fun h => ?_) (fun h => ?_) <;> (fail_if_success (have : h = trivial := rfl)) <;> (fail_if_success (have : h = not_false := rfl)) <;> first | contradiction | (exfalso; omega) | (exfalso; revert h; simp; done) | skip) | (refine SL.W.dguardB (fun h => ?_) (fun h => ?_) <;> (fail_if_success (have : h = (rfl : true = true) := rfl)) <;> (fail_if_success (have : h = (rfl : false = false) := rfl))) | refine SL.W.done ?_ | refine SL.W.dtwo ?_ ?_ | refine SL.W.dthree ?_ ?_ ?_))
    exact SL.TK.finD Try.func112 (SL.Res.none rfl) ⟨rfl, ys, hS.out.1, doneC.out, rfl⟩ EntD.refl

end SL
