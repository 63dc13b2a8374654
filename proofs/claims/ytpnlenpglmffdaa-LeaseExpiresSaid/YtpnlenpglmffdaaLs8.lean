/-
  LeaseBack: its four loops.
-/
import Derived.Test.YtpnlenpglmffdaaLs7
set_option linter.unusedVariables false
set_option linter.unusedSimpArgs false
set_option maxRecDepth 10000
namespace SL
open Go Go.Proofs Go.RowKit

/-- the calls of Set, out of clients and ticks -/
def stepsOf (c t : Nat → Nat) (n : Nat) : As2 := (List.range n).map fun i => ((c i : Int), (t i : Int) % 1000)
theorem stepsOf_len (c t : Nat → Nat) (n : Nat) : (stepsOf c t n).length = n := by simp [stepsOf]
theorem stepsOf_get (c t : Nat → Nat) {n i : Nat} (h : i < n) : (stepsOf c t n)[i]? = some ((c i : Int), (t i : Int) % 1000) := by simp [stepsOf, h]
theorem stepsOf_rev (c t : Nat → Nat) {n i k : Nat} (h : k + i + 1 = n) : (stepsOf c t n).reverse[i]? = some ((c k : Int), (t k : Int) % 1000) := by
  rw [List.getElem?_reverse (by rw [stepsOf_len]; omega), stepsOf_len, show n - 1 - i = k from by omega]
  exact stepsOf_get c t (by omega)
theorem sets_take {ps : As2} {i : Nat} {p : Int × Int} (h : ps[i]? = some p) : sets (ps.take (i + 1)) [] = stp (sets (ps.take i) []) p := by
  rw [List.take_add_one, h]; exact sets_snoc _ _ _
theorem sets_take_len (ps : As2) (i : Nat) : (sets (ps.take i) []).length ≤ i := by
  have := sets_len (ps.take i) []
  simp only [List.length_nil, List.length_take] at this
  omega
attribute [local irreducible] SL.TK SL.TO SL.TD SL.PV SL.Pick SL.Frm SL.Ent SL.Sub SL.EvAll SL.seps SL.sep SL.Cut SL.PutAt SL.blk SL.EvP SL.Fill SL.Src SL.EntD SL.own SL.ex SL.fact SL.orig

def lb0 (W : World) (na nb n : Nat) (va vb vg : Value) (ps : As2) (ρ : Env) (L : List HProp) (m : Nat) : Prop := ∃ i : Nat, i ≤ n ∧
  ρ = [(0, va), (1, vb), (2, vg), (7, .int .i64 n), (8, .pointer (some ⟨na, 0, none⟩)), (10, .pointer (some ⟨nb, 0, none⟩)), (12, .int .i64 i)] ∧
  L = [LeasesAt na (sets (ps.take i) []), LeasesAt nb (sets (ps.reverse.take i) []), SL.orig W] ∧ m = n - i
set_option maxHeartbeats 2000000 in
theorem back_loop0 {post : Post} {k : List Item} (W : World) (na nb n : Nat) (va vb vg : Value) (c t : Nat → Nat) (qa qb : Addr) (hn : n ≤ 12)
    (hv : 0 < n → ∃ la ca lb cb : Nat, va = .slice (some qa) la ca ∧ vb = .slice (some qb) lb cb ∧ n ≤ la ∧ n ≤ lb) (hc : ∀ i, i < n → c i ≤ 255 ∧ W.cell? (qa.add (i * 1)) = some (.int .u8 (c i))) (ht : ∀ i, i < n → t i ≤ 65535 ∧ W.cell? (qb.add (i * 1)) = some (.int .u16 (t i)))
    (hk : TK Try.prog 8 Try.f8.ntmps post k [(2, vg), (8, .pointer (some ⟨na, 0, none⟩)), (10, .pointer (some ⟨nb, 0, none⟩))] [LeasesAt na (sets (stepsOf c t n) []), LeasesAt nb (sets (stepsOf c t n).reverse []), SL.orig W]) :
    TK Try.prog 8 Try.f8.ntmps post (.code (loopAt Try.f8 0) :: k)
      [(0, va), (1, vb), (2, vg), (7, .int .i64 n), (8, .pointer (some ⟨na, 0, none⟩)), (10, .pointer (some ⟨nb, 0, none⟩)), (12, .int .i64 0)] [LeasesAt na [], LeasesAt nb [], SL.orig W] := by
  have hK := Lib.hid hk
  clear hk
  have hps := Lib.hid (And.intro (fun i => stepsOf_get c t (n := n) (i := i)) (And.intro (fun i k => stepsOf_rev c t (n := n) (i := i) (k := k)) (stepsOf_len c t n)))
  obtain ⟨ps, hpse⟩ : ∃ ps, ps = stepsOf c t n := ⟨_, rfl⟩
  rw [← hpse] at hK hps
  clear hpse
  refine SL.TK.block ?_
  refine SL.TK.loopD (lb0 W na nb n va vb vg ps) ?_ ⟨0, Nat.zero_le _, rfl, rfl, rfl⟩ (by first | ((repeat (first | exact SL.Sub.nil | refine SL.Sub.cons (by rfl) (by first | rfl | exact SL.int_eq (by omega)) ?_)); done) | fail) EntD.refl
  rintro ρ L m ⟨i, hi, rfl, rfl, rfl⟩ ih
  by_cases hlt : i < n
  · obtain ⟨la, ca, lb, cb, rfl, rfl, h1, h2⟩ := hv (by omega)
    obtain ⟨kk, hkk⟩ : ∃ kk, kk + i + 1 = n := ⟨n - 1 - i, by omega⟩
    have e13 : Value.int .i64 ((n : Int) - 1 - (i : Int)) = .int .i64 (kk : Int) := int_eq (by omega)
    obtain ⟨b1, c1⟩ := hc i hlt
    obtain ⟨b2, t1⟩ := ht i hlt
    obtain ⟨b3, c2⟩ := hc kk (by omega)
    obtain ⟨b4, t2⟩ := ht kk (by omega)
    have hSa : Hid (Spec Try.prog 27 [.pointer (some ⟨na, 0, none⟩), .int .u32 (c i), .int .u64 ((t i : Int) % 1000)] [LeasesAt na (sets (ps.take i) [])] (fun r L => r = .int .i64 0 ∧ L = [LeasesAt na (sets (ps.take (i + 1)) [])])) := Lib.hid <| by
      have hl := sets_take_len ps i
      have := lsSet_spec na (c i) ((t i : Int) % 1000) (sets (ps.take i) []) (by omega)
      rwa [setE_ok (by omega) (by omega), setT_ok (by omega) (by omega), ← sets_take (hps.out.1 i hlt)] at this
    have hSb : Hid (Spec Try.prog 27 [.pointer (some ⟨nb, 0, none⟩), .int .u32 (c kk), .int .u64 ((t kk : Int) % 1000)] [LeasesAt nb (sets (ps.reverse.take i) [])] (fun r L => r = .int .i64 0 ∧ L = [LeasesAt nb (sets (ps.reverse.take (i + 1)) [])])) := Lib.hid <| by
      have hl := sets_take_len ps.reverse i
      have := lsSet_spec nb (c kk) ((t kk : Int) % 1000) (sets (ps.reverse.take i) []) (by omega)
      rwa [setE_ok (by omega) (by omega), setT_ok (by omega) (by omega), ← sets_take (hps.out.2.1 i kk hkk)] at this
    obtain ⟨ci, hci⟩ : ∃ x, x = c i := ⟨_, rfl⟩
    obtain ⟨ti, hti⟩ : ∃ x, x = t i := ⟨_, rfl⟩
    obtain ⟨ck, hck⟩ : ∃ x, x = c kk := ⟨_, rfl⟩
    obtain ⟨tk, htk⟩ : ∃ x, x = t kk := ⟨_, rfl⟩
    rw [← hci] at hSa b1 c1
    rw [← hti] at hSa b2 t1
    rw [← hck] at hSb b3 c2
    rw [← htk] at hSb b4 t2
    clear hc ht hv hK hps hci hti hck htk
    repeat' (first | (refine SL.TO.is ?_; first | (refine SL.TO.door (o := ⟨_, .call ⟨.value (.func 27), _, _⟩, _, _, _, _⟩) ?_; first | (refine SL.W.call (hSa.out) ?_; rintro _ _ ⟨rfl, rfl⟩; try simp only [List.cons_append, List.nil_append]) | (refine SL.W.call (hSb.out) ?_; rintro _ _ ⟨rfl, rfl⟩; try simp only [List.cons_append, List.nil_append])) | refine SL.TO.nil ?_ | (refine SL.TO.nilD ?_; simp only [SL.setB]) | refine SL.W.pass ?_ | refine SL.W.pass0 ?_ | (refine SL.W.pure ?_; first | refine SL.W.pv ?_ | refine SL.W.pv0 ?_ | refine SL.W.lenMp ?_ | (refine SL.W.guardP (fun h => ?_) (fun h => ?_) <;> (fail_if_success (have : h = trivial := rfl)) <;> (fail_if_success (have : h = not_false := rfl)) <;> first | contradiction | (exfalso; omega) | (exfalso; revert h; simp; done) | skip) | (refine SL.W.guardB (fun h => ?_) (fun h => ?_) <;> (fail_if_success (have : h = (rfl : true = true) := rfl)) <;> (fail_if_success (have : h = (rfl : false = false) := rfl)))) | (refine SL.W.loud ?_; first | refine SL.W.load ?_ | refine SL.W.loadA ?_ | refine SL.W.store ?_ | refine SL.W.storeA ?_ | (refine SL.W.box ?_; intro b) | (refine SL.W.alloc ?_; intro b) | (refine SL.W.buildSlice ?_; intro b) | (refine SL.W.append ?_; intro a cap) | refine SL.W.bytesToStr ?_ | refine SL.W.pvn (SL.PV.toIntC (by rfl) (by first | exact SL.wrap_i64 (by omega) | exact SL.wrap_u8 (by omega) | exact SL.wrap_u32 (by omega) | exact SL.wrap_u64 (by omega) | rfl)) ?_ | (refine SL.W.makeSlice ?_; intro b) | refine SL.W.lookupOk ?_ | refine SL.W.lookup ?_ | (refine SL.W.makeMap ?_; intro b) | refine SL.W.mapUpdate ?_ | (refine SL.W.mapEntry ?_; intro stamp) | refine SL.W.entryStore ?_ | (refine SL.W.range ?_; intro it) | refine SL.W.delete ?_ | (refine SL.W.guardP (fun h => ?_) (fun h => ?_) <;> (fail_if_success (have : h = trivial := rfl)) <;> (fail_if_success (have : h = not_false := rfl)) <;> first | contradiction | (exfalso; omega) | (exfalso; revert h; simp; done) | skip) | (refine SL.W.guardB (fun h => ?_) (fun h => ?_) <;> (fail_if_success (have : h = (rfl : true = true) := rfl)) <;> (fail_if_success (have : h = (rfl : false = false) := rfl))))) | (refine SL.TK.is ?_; first | refine SL.TK.slot (d := 13) (by rfl) e13 ?_ | refine SL.TK.seq ?_ | refine SL.TK.region ?_ | refine SL.TK.regionD SL.mixed (by simp only [SL.falses] <;> rfl) ?_ | refine SL.TK.block ?_ | refine SL.TK.inBlock ?_ | refine SL.TK.skip ?_ | refine SL.TK.scope ?_ | refine SL.TK.inScope ?_ | refine SL.TK.label ?_ | refine SL.W.exit ?_ | refine SL.W.condT ?_ | refine SL.W.condF ?_ | (refine SL.W.condP (fun h => ?_) (fun h => ?_) <;> (fail_if_success (have : h = trivial := rfl)) <;> (fail_if_success (have : h = not_false := rfl)) <;> first | contradiction | (exfalso; omega) | (exfalso; revert h; simp; done) | skip) | refine SL.W.condB (fun h => ?_) (fun h => ?_)) | (refine SL.TD.is ?_; first | refine SL.TD.frzO (by first | ((repeat (first | exact SL.Pick.head | apply SL.Pick.tail)); done) | fail) ?_ | refine SL.W.dloadO c1 ?_ | refine SL.W.dloadO t1 ?_ | refine SL.W.dloadO c2 ?_ | refine SL.W.dloadO t2 ?_ | (refine SL.W.dfin ?_; simp only [List.append_nil, List.cons_append, List.nil_append]) | refine SL.W.dpass ?_ | refine SL.W.dpure ?_ | refine SL.W.dload ?_ | refine SL.W.dloadA ?_ | refine SL.W.dfrz ?_ | (refine SL.W.dthaw ?_; simp only [List.append_nil, List.cons_append, List.nil_append]) | (refine SL.W.dguardP (fun h => ?_) (fun h => ?_) <;> (fail_if_success (have : h = trivial := rfl)) <;> (fail_if_success (have : h = not_false := rfl)) <;> first | contradiction | (exfalso; omega) | (exfalso; revert h; simp; done) | skip) | (refine SL.W.dguardB (fun h => ?_) (fun h => ?_) <;> (fail_if_success (have : h = (rfl : true = true) := rfl)) <;> (fail_if_success (have : h = (rfl : false = false) := rfl))) | refine SL.W.done ?_ | refine SL.W.dtwo ?_ ?_ | refine SL.W.dthree ?_ ?_ ?_))
    all_goals
      refine SL.TK.againD ih ⟨i + 1, by omega, rfl, rfl, rfl⟩ (by first | ((repeat (first | exact SL.Sub.nil | refine SL.Sub.cons (by rfl) (by first | rfl | exact SL.int_eq (by omega)) ?_)); done) | fail) ?_ (by omega)
      exact EntD.cons (by first | ((repeat (first | exact SL.Pick.head | apply SL.Pick.tail)); done) | fail) (EntD.cons (by first | ((repeat (first | exact SL.Pick.head | apply SL.Pick.tail)); done) | fail) (EntD.cons (by first | ((repeat (first | exact SL.Pick.head | apply SL.Pick.tail)); done) | fail) EntD.nil))
  · have hin : i = n := by omega
    subst hin
    have e1 : ps.take i = ps := List.take_of_length_le (by rw [hps.out.2.2]; exact Nat.le_refl _)
    have e2 : ps.reverse.take i = ps.reverse := List.take_of_length_le (by rw [List.length_reverse, hps.out.2.2]; exact Nat.le_refl _)
    rw [e1, e2]
    clear ih hps e1 e2 hc ht hv
    repeat' (first | (refine SL.TO.is ?_; first | refine SL.TO.nil ?_ | (refine SL.TO.nilD ?_; simp only [SL.setB]) | refine SL.W.pass ?_ | refine SL.W.pass0 ?_ | (refine SL.W.pure ?_; first | refine SL.W.pv ?_ | refine SL.W.pv0 ?_ | refine SL.W.lenMp ?_ | (refine SL.W.guardP (fun h => ?_) (fun h => ?_) <;> (fail_if_success (have : h = trivial := rfl)) <;> (fail_if_success (have : h = not_false := rfl)) <;> first | contradiction | (exfalso; omega) | (exfalso; revert h; simp; done) | skip) | (refine SL.W.guardB (fun h => ?_) (fun h => ?_) <;> (fail_if_success (have : h = (rfl : true = true) := rfl)) <;> (fail_if_success (have : h = (rfl : false = false) := rfl)))) | (refine SL.W.loud ?_; first | refine SL.W.load ?_ | refine SL.W.loadA ?_ | refine SL.W.store ?_ | refine SL.W.storeA ?_ | (refine SL.W.box ?_; intro b) | (refine SL.W.alloc ?_; intro b) | (refine SL.W.buildSlice ?_; intro b) | (refine SL.W.append ?_; intro a cap) | refine SL.W.bytesToStr ?_ | refine SL.W.pvn (SL.PV.toIntC (by rfl) (by first | exact SL.wrap_i64 (by omega) | exact SL.wrap_u8 (by omega) | exact SL.wrap_u32 (by omega) | exact SL.wrap_u64 (by omega) | rfl)) ?_ | (refine SL.W.makeSlice ?_; intro b) | refine SL.W.lookupOk ?_ | refine SL.W.lookup ?_ | (refine SL.W.makeMap ?_; intro b) | refine SL.W.mapUpdate ?_ | (refine SL.W.mapEntry ?_; intro stamp) | refine SL.W.entryStore ?_ | (refine SL.W.range ?_; intro it) | refine SL.W.delete ?_ | (refine SL.W.guardP (fun h => ?_) (fun h => ?_) <;> (fail_if_success (have : h = trivial := rfl)) <;> (fail_if_success (have : h = not_false := rfl)) <;> first | contradiction | (exfalso; omega) | (exfalso; revert h; simp; done) | skip) | (refine SL.W.guardB (fun h => ?_) (fun h => ?_) <;> (fail_if_success (have : h = (rfl : true = true) := rfl)) <;> (fail_if_success (have : h = (rfl : false = false) := rfl))))) | (refine SL.TK.is ?_; first | (refine SL.TK.weakD (by first | ((repeat (first | exact SL.Sub.nil | refine SL.Sub.cons (by rfl) (by first | rfl | exact SL.int_eq (by omega)) ?_)); done) | fail) EntD.refl hK.out) | refine SL.TK.seq ?_ | refine SL.TK.region ?_ | refine SL.TK.regionD SL.mixed (by simp only [SL.falses] <;> rfl) ?_ | refine SL.TK.block ?_ | refine SL.TK.inBlock ?_ | refine SL.TK.skip ?_ | refine SL.TK.scope ?_ | refine SL.TK.inScope ?_ | refine SL.TK.label ?_ | refine SL.W.exit ?_ | refine SL.W.condT ?_ | refine SL.W.condF ?_ | (refine SL.W.condP (fun h => ?_) (fun h => ?_) <;> (fail_if_success (have : h = trivial := rfl)) <;> (fail_if_success (have : h = not_false := rfl)) <;> first | contradiction | (exfalso; omega) | (exfalso; revert h; simp; done) | skip) | refine SL.W.condB (fun h => ?_) (fun h => ?_)) | (refine SL.TD.is ?_; first | (refine SL.W.dfin ?_; simp only [List.append_nil, List.cons_append, List.nil_append]) | refine SL.W.dpass ?_ | refine SL.W.dpure ?_ | refine SL.W.dload ?_ | refine SL.W.dloadA ?_ | refine SL.W.dfrz ?_ | (refine SL.W.dthaw ?_; simp only [List.append_nil, List.cons_append, List.nil_append]) | (refine SL.W.dguardP (fun h => ?_) (fun h => ?_) <;> (fail_if_success (have : h = trivial := rfl)) <;> (fail_if_success (have : h = not_false := rfl)) <;> first | contradiction | (exfalso; omega) | (exfalso; revert h; simp; done) | skip) | (refine SL.W.dguardB (fun h => ?_) (fun h => ?_) <;> (fail_if_success (have : h = (rfl : true = true) := rfl)) <;> (fail_if_success (have : h = (rfl : false = false) := rfl))) | refine SL.W.done ?_ | refine SL.W.dtwo ?_ ?_ | refine SL.W.dthree ?_ ?_ ?_))
end SL
