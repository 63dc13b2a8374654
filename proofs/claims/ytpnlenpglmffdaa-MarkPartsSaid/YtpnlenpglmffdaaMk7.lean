/-
  The given statement 'MarkParts': one by one, or as one row.
  Conditions: none beyond those of the given statement.
-/
import Derived.Test.YtpnlenpglmffdaaMk6
import Derived.Test.YtpnlenpglmffdaaRows
set_option linter.unusedVariables false
set_option linter.unusedSimpArgs false
set_option maxRecDepth 10000
namespace SL
open Go Go.Proofs Go.RowKit
/-- what is left of a slice from a place on -/
def rest (a : Option Addr) (cap m sz : Nat) : Option Addr := if cap = m then a else a.map (·.add (m * sz))
theorem RowX.rest {X : HProp} {a : Option Addr} {us : List Un} {cap m : Nat} (h : RowX X a us) (hc : us.length ≤ cap) (hm : m ≤ us.length) : RowX X (rest a cap m 5) (us.drop m) := by
  unfold SL.rest
  split
  · rw [List.drop_of_length_le (by omega)]; exact .empty
  · cases a with
    | none => rw [h.nil rfl]; simp; exact .empty
    | some q => exact h.drop m
attribute [local irreducible] SL.TK SL.TO SL.TD SL.PV SL.Pick SL.Frm SL.Ent SL.Sub SL.EvAll SL.seps SL.sep SL.Cut SL.PutAt SL.blk SL.EvP SL.Fill SL.Src SL.EntD SL.own SL.ex SL.fact SL.orig

theorem mkNew_ok (long : Int) (h : 0 ≤ long) : Spec Try.prog 12 [.int .i64 long] [] (fun r L => ∃ nb, r = .tuple #[.pointer (some ⟨nb, 0, none⟩), .int .i64 0] ∧ L = [MarksAt nb long []]) := by
  refine SL.Spec.postD (mkNew_spec long) ?_
  rintro v L (⟨h, _⟩ | ⟨_, nb, rfl, rfl⟩)
  · omega
  · exact ⟨_, ⟨nb, rfl, rfl⟩, EntD.refl⟩
theorem mkSet_ok (nb : Nat) (long q p : Int) (T T' : As2) (h : 0 ≤ p ∧ p ≤ long) (hT : iup q p T = T') : Spec Try.prog 14 [.pointer (some ⟨nb, 0, none⟩), .int .u32 q, .int .i64 p] [MarksAt nb long T] (fun r L => r = .int .i64 0 ∧ L = [MarksAt nb long T']) := by
  have := mkSet_spec nb long q p T
  rwa [if_pos h, if_pos h, hT] at this
theorem mkGo_ok {X : HProp} (a : Option Addr) (cap nb : Nat) (long m : Int) (us : List Un) (T T' : As2) (hX : RowX X a us) (hl : us.length ≤ 1000000) (hn : 0 ≤ long ∧ long ≤ 1099511627776) (hT : ∀ p ∈ T, -1000000000000 ≤ p.2 ∧ p.2 ≤ 1099511627776) (h : longU us long = some m) (hT' : goA us T = T') :
    Spec Try.prog 16 [.pointer (some ⟨nb, 0, none⟩), .slice a us.length cap] [MarksAt nb long T, X] (fun r L => r = .int .i64 0 ∧ L = [MarksAt nb m T', X]) := by
  have := mkGo_spec a cap nb long us T hX hl (by omega) hT
  have e : longR us long = (m, 0) := by unfold longR; rw [if_neg (by rw [fits_may h]; simp; omega), h]
  rw [e, if_pos rfl, if_pos rfl, hT'] at this
  exact this
theorem mkGet_ok (nb : Nat) (long q p : Int) (T : As2) (h : lkp q T = some p) : Spec Try.prog 17 [.pointer (some ⟨nb, 0, none⟩), .int .u32 q] [MarksAt nb long T] (fun r L => r = .tuple #[.int .i64 p, .bool true] ∧ L = [MarksAt nb long T]) := by
  have := mkGet_spec nb long q T
  rwa [h] at this

set_option maxHeartbeats 1000000 in
theorem parts_spec (W : World) (a : Option Addr) (cap len0 : Nat) (us : List Un) (l p t : Int) (hl : 0 ≤ l ∧ l ≤ 255) (hp : 0 ≤ p ∧ p ≤ 255) (ht : 0 ≤ t ∧ t ≤ 255) (hX : RowX (SL.orig W) a us) (hlen : us.length = min len0 40) (hc : len0 ≤ cap) :
    Spec Try.prog 3 [.agg #[.int .u8 l, .int .u8 p, .int .u8 t], .slice a len0 cap] [SL.orig W] (fun r L => r = .bool true ∧ L = [SL.orig W]) := by
  have hmin : Hid (min (len0 : Int) 40 = (us.length : Int)) := Lib.hid (by omega)
  have h40 : us.length ≤ 40 := by omega
  have hcc : us.length ≤ cap := by omega
  obtain ⟨lo, hlo⟩ : ∃ lo : Int, lo = l % 61 := ⟨_, rfl⟩
  obtain ⟨ps, hps⟩ : ∃ ps : Int, ps = p % (lo + 1) := ⟨_, rfl⟩
  have hlob : 0 ≤ lo ∧ lo ≤ 60 := by omega
  have hpsb : 0 ≤ ps ∧ ps ≤ lo := ⟨by rw [hps]; exact Int.emod_nonneg _ (by omega), by rw [hps]; have := Int.emod_lt_of_pos p (show 0 < lo + 1 by omega); omega⟩
  have hlo2 := Lib.hid (show l.tmod 61 = lo by rw [hlo]; exact Int.tmod_eq_emod_of_nonneg hl.1)
  have hps2 := Lib.hid (show p.tmod (lo + 1) = ps by rw [hps]; exact Int.tmod_eq_emod_of_nonneg hp.1)
  clear hlo hps hlen
  have hnew := mkNew_ok lo hlob.1
  have hset1 (nb : Nat) := mkSet_ok nb lo 1 ps [] [(1, ps)] hpsb rfl
  have hset2 (nb : Nat) := mkSet_ok nb lo 2 (lo - ps) [(1, ps)] [(1, ps), (2, lo - ps)] (by omega) rfl
  have hlong := long_spec a cap us lo hX (by omega) (by omega)
  cases hL : longU us lo with
  | none =>
    obtain ⟨m, e, he, hme⟩ : ∃ m e, e ≠ 0 ∧ longR us lo = (m, e) := by
      unfold longR
      rw [hL]
      split
      · exact ⟨0, 1, by omega, rfl⟩
      · exact ⟨0, 30, by omega, rfl⟩
    rw [hme] at hlong
    have hgo (nb : Nat) : Spec Try.prog 16 [.pointer (some ⟨nb, 0, none⟩), .slice a us.length cap] [MarksAt nb lo [(1, ps)], SL.orig W] (fun r L => r = .int .i64 e ∧ L = [MarksAt nb lo [(1, ps)], SL.orig W]) := by
      have := mkGo_spec a cap nb lo us [(1, ps)] hX (by omega) (by omega) (by simp; omega)
      rwa [hme, if_neg he, if_neg he] at this
    simp only at hlong
    clear hX hme hL
    refine SL.Spec.of_TK Go.Proofs.Try.func3 rfl rfl SL.call3 rfl ?_
    repeat' (first | (refine SL.TO.is ?_; first | (refine SL.TO.door (o := ⟨_, .slice _ _ _ _ _, _, _, _, _⟩) ?_; first | refine SL.TO.pv (by rfl) rfl (SL.PV.sliceHi (hi := us.length) (by rfl) (by rfl) hmin.out (by omega)) ?_) | (refine SL.TO.door (o := ⟨_, .call ⟨.value (.func 13), _, _⟩, _, _, _, _⟩) ?_; first | (refine SL.W.call (mkAwake_spec) ?_; rintro _ _ ⟨rfl, rfl⟩; try simp only [List.cons_append, List.nil_append])) | (refine SL.TO.door (o := ⟨_, .call ⟨.value (.func 12), _, _⟩, _, _, _, _⟩) ?_; first | (refine SL.W.call (hnew) ?_; rintro _ _ ⟨nb, rfl, rfl⟩; try simp only [List.cons_append, List.nil_append])) | (refine SL.TO.door (o := ⟨_, .call ⟨.value (.func 14), _, _⟩, _, _, _, _⟩) ?_; first | (refine SL.W.call (hset1 _) ?_; rintro _ _ ⟨rfl, rfl⟩; try simp only [List.cons_append, List.nil_append]) | (refine SL.W.call (hset2 _) ?_; rintro _ _ ⟨rfl, rfl⟩; try simp only [List.cons_append, List.nil_append])) | (refine SL.TO.door (o := ⟨_, .call ⟨.value (.func 15), _, _⟩, _, _, _, _⟩) ?_; first | (refine SL.W.call (hlong) ?_; rintro _ _ ⟨rfl, rfl⟩; try simp only [List.cons_append, List.nil_append])) | (refine SL.TO.door (o := ⟨_, .call ⟨.value (.func 16), _, _⟩, _, _, _, _⟩) ?_; first | (refine SL.W.call (hgo _) ?_; rintro _ _ ⟨rfl, rfl⟩; try simp only [List.cons_append, List.nil_append])) | refine SL.TO.nil ?_ | (refine SL.TO.nilD ?_; simp only [SL.setB]) | refine SL.W.pass ?_ | refine SL.W.pass0 ?_ | (refine SL.W.pure ?_; first | (refine SL.TO.door (o := ⟨_, .binOp .rem _ _ _ _, _, _, _, _⟩) ?_; refine SL.W.pvn (SL.PV.rem (r := lo) (by rfl) (by rfl) (by omega) hlo2.out) ?_) | (refine SL.TO.door (o := ⟨_, .binOp .rem _ _ _ _, _, _, _, _⟩) ?_; refine SL.W.pvn (SL.PV.rem (r := ps) (by rfl) (by rfl) (by omega) hps2.out) ?_) | refine SL.W.pv ?_ | refine SL.W.pv0 ?_ | refine SL.W.lenMp ?_ | (refine SL.W.guardP (fun h => ?_) (fun h => ?_) <;> (fail_if_success (have : h = trivial := rfl)) <;> (fail_if_success (have : h = not_false := rfl)) <;> first | contradiction | (exfalso; omega) | (exfalso; revert h; simp; done) | skip) | (refine SL.W.guardB (fun h => ?_) (fun h => ?_) <;> (fail_if_success (have : h = (rfl : true = true) := rfl)) <;> (fail_if_success (have : h = (rfl : false = false) := rfl)))) | (refine SL.W.loud ?_; first | refine SL.W.load ?_ | refine SL.W.loadA ?_ | refine SL.W.store ?_ | refine SL.W.storeA ?_ | (refine SL.W.box ?_; intro b) | (refine SL.W.alloc ?_; intro b) | (refine SL.W.buildSlice ?_; intro b) | (refine SL.W.append ?_; intro a cap) | refine SL.W.bytesToStr ?_ | refine SL.W.pvn (SL.PV.toIntC (by rfl) (by first | exact SL.wrap_i64 (by omega) | exact SL.wrap_u8 (by omega) | exact SL.wrap_u32 (by omega) | exact SL.wrap_u64 (by omega) | rfl)) ?_ | (refine SL.W.makeSlice ?_; intro b) | refine SL.W.lookupOk ?_ | refine SL.W.lookup ?_ | (refine SL.W.makeMap ?_; intro b) | refine SL.W.mapUpdate ?_ | (refine SL.W.mapEntry ?_; intro stamp) | refine SL.W.entryStore ?_ | (refine SL.W.range ?_; intro it) | refine SL.W.delete ?_ | (refine SL.W.guardP (fun h => ?_) (fun h => ?_) <;> (fail_if_success (have : h = trivial := rfl)) <;> (fail_if_success (have : h = not_false := rfl)) <;> first | contradiction | (exfalso; omega) | (exfalso; revert h; simp; done) | skip) | (refine SL.W.guardB (fun h => ?_) (fun h => ?_) <;> (fail_if_success (have : h = (rfl : true = true) := rfl)) <;> (fail_if_success (have : h = (rfl : false = false) := rfl))))) | (refine SL.TK.is ?_; first | refine SL.TK.seq ?_ | refine SL.TK.region ?_ | refine SL.TK.regionD SL.mixed (by simp only [SL.falses] <;> rfl) ?_ | refine SL.TK.block ?_ | refine SL.TK.inBlock ?_ | refine SL.TK.skip ?_ | refine SL.TK.scope ?_ | refine SL.TK.inScope ?_ | refine SL.TK.label ?_ | refine SL.W.exit ?_ | refine SL.W.condT ?_ | refine SL.W.condF ?_ | (refine SL.W.condP (fun h => ?_) (fun h => ?_) <;> (fail_if_success (have : h = trivial := rfl)) <;> (fail_if_success (have : h = not_false := rfl)) <;> first | contradiction | (exfalso; omega) | (exfalso; revert h; simp; done) | skip) | refine SL.W.condB (fun h => ?_) (fun h => ?_)) | (refine SL.TD.is ?_; first | (refine SL.W.dfin ?_; simp only [List.append_nil, List.cons_append, List.nil_append]) | refine SL.W.dpass ?_ | refine SL.W.dpure ?_ | refine SL.W.dload ?_ | refine SL.W.dloadA ?_ | refine SL.W.dfrz ?_ | (refine SL.W.dthaw ?_; simp only [List.append_nil, List.cons_append, List.nil_append]) | (refine SL.W.dguardP (fun h => ?_) (fun h => ?_) <;> (fail_if_success (have : h = trivial := rfl)) <;> (fail_if_success (have : h = not_false := rfl)) <;> first | contradiction | (exfalso; omega) | (exfalso; revert h; simp; done) | skip) | (refine SL.W.dguardB (fun h => ?_) (fun h => ?_) <;> (fail_if_success (have : h = (rfl : true = true) := rfl)) <;> (fail_if_success (have : h = (rfl : false = false) := rfl))) | refine SL.W.done ?_ | refine SL.W.dtwo ?_ ?_ | refine SL.W.dthree ?_ ?_ ?_))
    all_goals exact SL.TK.retD Try.func3 (SL.Res.one rfl (by rfl)) ⟨by simp, rfl⟩ (EntD.cons (by first | ((repeat (first | exact SL.Pick.head | apply SL.Pick.tail)); done) | fail) EntD.nil)
  | some m =>
    have hme : longR us lo = (m, 0) := by unfold longR; rw [if_neg (by rw [fits_may hL]; simp; omega), hL]
    rw [hme] at hlong
    simp only at hlong
    obtain ⟨k, hk⟩ : ∃ k : Nat, (k : Int) = t % ((us.length : Int) + 1) := ⟨(t % ((us.length : Int) + 1)).toNat, Int.toNat_of_nonneg (Int.emod_nonneg _ (by omega))⟩
    have hkn : k ≤ us.length := by have := Int.emod_lt_of_pos t (show 0 < (us.length : Int) + 1 by omega); omega
    have hk2 := Lib.hid (show t.tmod ((us.length : Int) + 1) = k by rw [hk]; exact Int.tmod_eq_emod_of_nonneg ht.1)
    clear hk
    have happ := longU_append (us.take k) (us.drop k) lo
    rw [List.take_append_drop, hL] at happ
    obtain ⟨m1, hm1, hm2⟩ : ∃ m1, longU (us.take k) lo = some m1 ∧ longU (us.drop k) m1 = some m := by
      cases h : longU (us.take k) lo with
      | none => rw [h] at happ; cases happ
      | some m1 => rw [h] at happ; exact ⟨m1, rfl, happ.symm⟩
    have hkl : (us.take k).length = k := by rw [List.length_take]; omega
    have hb1 := longU_bound _ _ _ hm1 hlob.1
    rw [hkl] at hb1
    have hpb := placeU_bound (us.take k) ps
    rw [hkl] at hpb
    have hpb2 := placeU_bound us ps
    have hpa : placeU (placeU ps (us.take k)) (us.drop k) = placeU ps us := by rw [← placeU_append, List.take_append_drop]
    have hgo1 (nb : Nat) := mkGo_ok (T := [(1, ps)]) a cap nb lo m1 (us.take k) [(1, placeU ps (us.take k))] (hX.take k) (by omega) (by omega) (by simp; omega) hm1 rfl
    have hgo2 (nb : Nat) := mkGo_ok (T := [(1, placeU ps (us.take k))]) (rest a cap k 5) (cap - k) nb m1 m (us.drop k) [(1, placeU ps us)] (hX.rest hcc hkn) (by rw [List.length_drop]; omega) (by omega) (by simp; omega) hm2 (by simp [goA, hpa])
    have hgo3 (nb : Nat) := mkGo_ok (T := [(1, ps), (2, lo - ps)]) a cap nb lo m us [(1, placeU ps us), (2, placeU (lo - ps) us)] hX (by omega) (by omega) (by simp; omega) hL rfl
    rw [hkl] at hgo1
    rw [List.length_drop] at hgo2
    have hpl1 := place_spec a cap us ps hX (by omega) (by omega)
    have hpl2 := place_spec a cap us (lo - ps) hX (by omega) (by omega)
    obtain ⟨y, hy⟩ : ∃ y, y = placeU ps (us.take k) := ⟨_, rfl⟩
    obtain ⟨x1, hx1⟩ : ∃ x, x = placeU ps us := ⟨_, rfl⟩
    obtain ⟨x2, hx2⟩ : ∃ x, x = placeU (lo - ps) us := ⟨_, rfl⟩
    rw [← hy] at hgo1 hgo2
    rw [← hx1] at hgo2 hgo3 hpl1
    rw [← hx2] at hgo3 hpl2
    have hq1 (nb : Nat) := mkGet_ok nb m 1 x1 [(1, x1)] rfl
    have hq2 (nb : Nat) := mkGet_ok nb m 1 x1 [(1, x1), (2, x2)] rfl
    have hq3 (nb : Nat) := mkGet_ok nb m 2 x2 [(1, x1), (2, x2)] rfl
    clear hX hme hL hpa hy hx1 hx2 hm1 hm2 happ hpb hpb2 hb1 hkl
    have Hhset1 := Lib.hid fun (nb : Nat) => hset1 nb
    have Hhset2 := Lib.hid fun (nb : Nat) => hset2 nb
    have Hhgo1 := Lib.hid fun (nb : Nat) => hgo1 nb
    have Hhgo2 := Lib.hid fun (nb : Nat) => hgo2 nb
    have Hhgo3 := Lib.hid fun (nb : Nat) => hgo3 nb
    have Hhq1 := Lib.hid fun (nb : Nat) => hq1 nb
    have Hhq2 := Lib.hid fun (nb : Nat) => hq2 nb
    have Hhq3 := Lib.hid fun (nb : Nat) => hq3 nb
    have Hhnew := Lib.hid hnew
    have Hhlong := Lib.hid hlong
    have Hhpl1 := Lib.hid hpl1
    have Hhpl2 := Lib.hid hpl2
    clear hset1 hset2 hgo1 hgo2 hgo3 hq1 hq2 hq3 hnew hlong hpl1 hpl2
    refine SL.Spec.of_TK Go.Proofs.Try.func3 rfl rfl SL.call3 rfl ?_
    repeat' (first | (refine SL.TO.is ?_; first | (refine SL.TO.door (o := ⟨_, .slice _ _ _ _ _, _, _, _, _⟩) ?_; first | refine SL.TO.pv (by rfl) rfl (SL.PV.sliceHi (hi := us.length) (by rfl) (by rfl) hmin.out (by omega)) ?_ | refine SL.TO.pv (by rfl) rfl (SL.PV.sliceHi (hi := k) (by rfl) (by rfl) rfl (by omega)) ?_ | refine SL.TO.pv (by rfl) rfl (SL.PV.sliceLo (lo := k) (by rfl) (by rfl) rfl hkn) ?_) | (refine SL.TO.door (o := ⟨_, .call ⟨.value (.func 13), _, _⟩, _, _, _, _⟩) ?_; first | (refine SL.W.call (mkAwake_spec) ?_; rintro _ _ ⟨rfl, rfl⟩; try simp only [List.cons_append, List.nil_append])) | (refine SL.TO.door (o := ⟨_, .call ⟨.value (.func 12), _, _⟩, _, _, _, _⟩) ?_; first | (refine SL.W.call (Hhnew.out) ?_; rintro _ _ ⟨nb, rfl, rfl⟩; try simp only [List.cons_append, List.nil_append])) | (refine SL.TO.door (o := ⟨_, .call ⟨.value (.func 14), _, _⟩, _, _, _, _⟩) ?_; first | (refine SL.W.call (Hhset1.out _) ?_; rintro _ _ ⟨rfl, rfl⟩; try simp only [List.cons_append, List.nil_append]) | (refine SL.W.call (Hhset2.out _) ?_; rintro _ _ ⟨rfl, rfl⟩; try simp only [List.cons_append, List.nil_append])) | (refine SL.TO.door (o := ⟨_, .call ⟨.value (.func 15), _, _⟩, _, _, _, _⟩) ?_; first | (refine SL.W.call (Hhlong.out) ?_; rintro _ _ ⟨rfl, rfl⟩; try simp only [List.cons_append, List.nil_append])) | (refine SL.TO.door (o := ⟨_, .call ⟨.value (.func 16), _, _⟩, _, _, _, _⟩) ?_; first | (refine SL.W.call (Hhgo1.out _) ?_; rintro _ _ ⟨rfl, rfl⟩; try simp only [List.cons_append, List.nil_append]) | (refine SL.W.call (Hhgo2.out _) ?_; rintro _ _ ⟨rfl, rfl⟩; try simp only [List.cons_append, List.nil_append]) | (refine SL.W.call (Hhgo3.out _) ?_; rintro _ _ ⟨rfl, rfl⟩; try simp only [List.cons_append, List.nil_append])) | (refine SL.TO.door (o := ⟨_, .call ⟨.value (.func 17), _, _⟩, _, _, _, _⟩) ?_; first | (refine SL.W.call (Hhq1.out _) ?_; rintro _ _ ⟨rfl, rfl⟩; try simp only [List.cons_append, List.nil_append]) | (refine SL.W.call (Hhq2.out _) ?_; rintro _ _ ⟨rfl, rfl⟩; try simp only [List.cons_append, List.nil_append]) | (refine SL.W.call (Hhq3.out _) ?_; rintro _ _ ⟨rfl, rfl⟩; try simp only [List.cons_append, List.nil_append])) | (refine SL.TO.door (o := ⟨_, .call ⟨.value (.func 18), _, _⟩, _, _, _, _⟩) ?_; first | (refine SL.W.call (Hhpl1.out) ?_; rintro _ _ ⟨rfl, rfl⟩; try simp only [List.cons_append, List.nil_append]) | (refine SL.W.call (Hhpl2.out) ?_; rintro _ _ ⟨rfl, rfl⟩; try simp only [List.cons_append, List.nil_append])) | (refine SL.TO.door (o := ⟨_, .call ⟨.value (.func 19), _, _⟩, _, _, _, _⟩) ?_; first | (refine SL.W.call (mkLong_spec _ _ _) ?_; rintro _ _ ⟨rfl, rfl⟩; try simp only [List.cons_append, List.nil_append])) | refine SL.TO.nil ?_ | (refine SL.TO.nilD ?_; simp only [SL.setB]) | refine SL.W.pass ?_ | refine SL.W.pass0 ?_ | (refine SL.W.pure ?_; first | (refine SL.TO.door (o := ⟨_, .binOp .rem _ _ _ _, _, _, _, _⟩) ?_; refine SL.W.pvn (SL.PV.rem (r := lo) (by rfl) (by rfl) (by omega) hlo2.out) ?_) | (refine SL.TO.door (o := ⟨_, .binOp .rem _ _ _ _, _, _, _, _⟩) ?_; refine SL.W.pvn (SL.PV.rem (r := ps) (by rfl) (by rfl) (by omega) hps2.out) ?_) | (refine SL.TO.door (o := ⟨_, .binOp .rem _ _ _ _, _, _, _, _⟩) ?_; refine SL.W.pvn (SL.PV.rem (r := (k : Int)) (by rfl) (by rfl) (by omega) hk2.out) ?_) | refine SL.W.pv ?_ | refine SL.W.pv0 ?_ | refine SL.W.lenMp ?_ | (refine SL.W.guardP (fun h => ?_) (fun h => ?_) <;> (fail_if_success (have : h = trivial := rfl)) <;> (fail_if_success (have : h = not_false := rfl)) <;> first | contradiction | (exfalso; omega) | (exfalso; revert h; simp; done) | skip) | (refine SL.W.guardB (fun h => ?_) (fun h => ?_) <;> (fail_if_success (have : h = (rfl : true = true) := rfl)) <;> (fail_if_success (have : h = (rfl : false = false) := rfl)))) | (refine SL.W.loud ?_; first | refine SL.W.load ?_ | refine SL.W.loadA ?_ | refine SL.W.store ?_ | refine SL.W.storeA ?_ | (refine SL.W.box ?_; intro b) | (refine SL.W.alloc ?_; intro b) | (refine SL.W.buildSlice ?_; intro b) | (refine SL.W.append ?_; intro a cap) | refine SL.W.bytesToStr ?_ | refine SL.W.pvn (SL.PV.toIntC (by rfl) (by first | exact SL.wrap_i64 (by omega) | exact SL.wrap_u8 (by omega) | exact SL.wrap_u32 (by omega) | exact SL.wrap_u64 (by omega) | rfl)) ?_ | (refine SL.W.makeSlice ?_; intro b) | refine SL.W.lookupOk ?_ | refine SL.W.lookup ?_ | (refine SL.W.makeMap ?_; intro b) | refine SL.W.mapUpdate ?_ | (refine SL.W.mapEntry ?_; intro stamp) | refine SL.W.entryStore ?_ | (refine SL.W.range ?_; intro it) | refine SL.W.delete ?_ | (refine SL.W.guardP (fun h => ?_) (fun h => ?_) <;> (fail_if_success (have : h = trivial := rfl)) <;> (fail_if_success (have : h = not_false := rfl)) <;> first | contradiction | (exfalso; omega) | (exfalso; revert h; simp; done) | skip) | (refine SL.W.guardB (fun h => ?_) (fun h => ?_) <;> (fail_if_success (have : h = (rfl : true = true) := rfl)) <;> (fail_if_success (have : h = (rfl : false = false) := rfl))))) | (refine SL.TK.is ?_; first | (refine SL.TK.atR (id := 8) ?_; refine SL.TK.env (ρ' := [(1, _), (2, _), (5, _), (6, _), (7, _), (9, _)]) (by first | ((repeat (first | exact SL.Sub.nil | refine SL.Sub.cons (by rfl) (by first | rfl | exact SL.int_eq (by omega)) ?_)); done) | fail) ?_; refine SL.TK.seq ?_) | (refine SL.TK.atR (id := 11) ?_; refine SL.TK.env (ρ' := [(1, _), (2, _), (5, _), (6, _), (7, _), (9, _)]) (by first | ((repeat (first | exact SL.Sub.nil | refine SL.Sub.cons (by rfl) (by first | rfl | exact SL.int_eq (by omega)) ?_)); done) | fail) ?_; refine SL.TK.seq ?_) | (refine SL.TK.atR (id := 12) ?_; refine SL.TK.env (ρ' := [(1, _), (5, _), (6, _), (7, _), (9, _), (13, _)]) (by first | ((repeat (first | exact SL.Sub.nil | refine SL.Sub.cons (by rfl) (by first | rfl | exact SL.int_eq (by omega)) ?_)); done) | fail) ?_; refine SL.TK.seq ?_) | (refine SL.TK.atR (id := 14) ?_; refine SL.TK.env (ρ' := [(1, _), (5, _), (6, _), (7, _), (9, _)]) (by first | ((repeat (first | exact SL.Sub.nil | refine SL.Sub.cons (by rfl) (by first | rfl | exact SL.int_eq (by omega)) ?_)); done) | fail) ?_; refine SL.TK.seq ?_) | (refine SL.TK.atR (id := 17) ?_; refine SL.TK.env (ρ' := [(1, _), (5, _), (6, _), (7, _), (9, _), (14, _), (15, _), (16, _), (17, _), (18, _), (19, _)]) (by first | ((repeat (first | exact SL.Sub.nil | refine SL.Sub.cons (by rfl) (by first | rfl | exact SL.int_eq (by omega)) ?_)); done) | fail) ?_; refine SL.TK.seq ?_) | refine SL.TK.seq ?_ | refine SL.TK.region ?_ | refine SL.TK.regionD SL.mixed (by simp only [SL.falses] <;> rfl) ?_ | refine SL.TK.block ?_ | refine SL.TK.inBlock ?_ | refine SL.TK.skip ?_ | refine SL.TK.scope ?_ | refine SL.TK.inScope ?_ | refine SL.TK.label ?_ | refine SL.W.exit ?_ | refine SL.W.condT ?_ | refine SL.W.condF ?_ | (refine SL.W.condP (fun h => ?_) (fun h => ?_) <;> (fail_if_success (have : h = trivial := rfl)) <;> (fail_if_success (have : h = not_false := rfl)) <;> first | contradiction | (exfalso; omega) | (exfalso; revert h; simp; done) | skip) | refine SL.W.condB (fun h => ?_) (fun h => ?_)) | (refine SL.TD.is ?_; first | (refine SL.W.dfin ?_; simp only [List.append_nil, List.cons_append, List.nil_append]) | refine SL.W.dpass ?_ | refine SL.W.dpure ?_ | refine SL.W.dload ?_ | refine SL.W.dloadA ?_ | refine SL.W.dfrz ?_ | (refine SL.W.dthaw ?_; simp only [List.append_nil, List.cons_append, List.nil_append]) | (refine SL.W.dguardP (fun h => ?_) (fun h => ?_) <;> (fail_if_success (have : h = trivial := rfl)) <;> (fail_if_success (have : h = not_false := rfl)) <;> first | contradiction | (exfalso; omega) | (exfalso; revert h; simp; done) | skip) | (refine SL.W.dguardB (fun h => ?_) (fun h => ?_) <;> (fail_if_success (have : h = (rfl : true = true) := rfl)) <;> (fail_if_success (have : h = (rfl : false = false) := rfl))) | refine SL.W.done ?_ | refine SL.W.dtwo ?_ ?_ | refine SL.W.dthree ?_ ?_ ?_))
    all_goals exact SL.TK.retD Try.func3 (SL.Res.one rfl (by rfl)) ⟨by simp, rfl⟩ (EntD.cons (by first | ((repeat (first | exact SL.Pick.head | apply SL.Pick.tail)); done) | fail) EntD.nil)
end SL

namespace SL
open Go Go.Proofs Go.RowKit
/-- a Part that came in -/
theorem part_in {W : World} {base : Nat} {H : Type} {enc : TypeId × Value → H} {v : Value} {d : DataW H} {ps : List MemPlace}
    (hval : Value.okWide Try.prog W .any base 23 v) (h : DataW.Trod enc Try.prog W 0 (fun _ => true) true 23 v d ps) :
    ∃ l p t : Int, v = .agg #[.int .u8 l, .int .u8 p, .int .u8 t] ∧ (0 ≤ l ∧ l ≤ 255) ∧ (0 ≤ p ∧ p ≤ 255) ∧ (0 ≤ t ∧ t ≤ 255) := by
  obtain ⟨cs, rfl, _⟩ := Go.WideShapes.okWide_struct Try.underlying23 hval
  obtain ⟨hl, hf⟩ := (Rdb.of h).struct Try.underlying23
  simp only [List.mem_cons, List.not_mem_nil, or_false, forall_eq_or_imp, forall_eq] at hf
  obtain ⟨h0, h1, h2⟩ := hf
  have l23 : Try.prog.cellsOf 23 = 3 := by kernel_rfl
  have l5 : Try.prog.cellsOf 5 = 1 := by kernel_rfl
  simp only [l5, l23, Value.cells] at h0 h1 h2 hl
  obtain ⟨cs⟩ := cs
  match cs, hl with
  | [x, y, z], _ =>
    obtain ⟨n0, e0, w0⟩ := h0.int Try.underlying5
    obtain ⟨n1, e1, w1⟩ := h1.int Try.underlying5
    obtain ⟨n2, e2, w2⟩ := h2.int Try.underlying5
    simp at e0 e1 e2
    subst e0 e1 e2
    exact ⟨n0, n1, n2, rfl, u8_of w0, u8_of w1, u8_of w2⟩
end SL

namespace Go.Proofs.Ytpnlenpglmffdaa.markParts
open Go.ChangeShapes Go.WideShapes Go.ChangeAt Go.RowKit

theorem own : ownKnob Try.prog.godebug = none := by kernel_rfl
theorem laid : laidOutB Try.prog = true := by kernel_rfl

theorem contract (H : Type) (enc : TypeId × Value → H) (W : World) (base : Nat) (args : Array Value) (ds gs : List (DataW H)) (before : List MemPlace)
    (hval : ∀ (j : Nat) t v, Try.f3.params[j]? = some t → args[j]? = some v → Value.okWide Try.prog W .any base t v)
    (hW : DataW.Whole enc Try.prog Try.f3.params.toList Rows.markPartsSpec.vars false W args.toList ds gs before) :
    Calls Try.prog 3 args W fun e W' => ∃ v, e = .returned v ∧ Rows.markPartsSpec.post enc Try.prog Try.f3 false true false false W args v W' := by
  have hW' := hW
  obtain ⟨p, q, hA0, hV, rfl, hfz, hnd⟩ := hW
  have hA : DataW.TrodAll enc Try.prog W 0 (fun _ => true) true Try.f3.params.toList args.toList ds p := hA0
  rw [Try.params3] at hA hval
  obtain ⟨v0, vs0, d0, ds0, p0, q0, hargs, rfl, rfl, h0, r0⟩ := trodAll_cons hA
  obtain ⟨v1, vs1, d1, ds1, p1, q1, rfl, rfl, rfl, h1, r1⟩ := trodAll_cons r0
  obtain ⟨rfl, rfl, rfl⟩ := trodAll_nil r1
  obtain rfl : args = #[v0, v1] := by cases args; simp_all
  obtain ⟨rfl, rfl⟩ := trodVars_none hV
  refine SL.law_calls (ds := [d0, d1]) (gs := []) laid (by kernel_rfl) rfl rfl rfl (by kernel_rfl) hW' ?_
  obtain ⟨l, p, t, rfl, hl, hp, ht⟩ := SL.part_in (hval 0 23 v0 rfl rfl) h0
  obtain ⟨a, cap, us, rfl, hc, hX⟩ := SL.row_in (hval 1 24 v1 rfl rfl) h1
  exact SL.parts_spec W a cap us.length (us.take 40) l p t hl hp ht (hX.take 40) (by rw [List.length_take]; omega) hc

set_option maxRecDepth 100000 in
theorem lifted (os : Os) (started : os.Started) (H : Type) (enc : TypeId × Value → H) :
    ReturnsInHanded {} Try.checked os 3 .any (Rows.markPartsSpec.pre6 enc Try.prog Try.f3 [] false) (Rows.markPartsSpec.post enc Try.prog Try.f3 false true false false) := by
  refine returnsInHanded_of_change own started (by kernel_rfl) Try.func3
    (ChangeSpec.witness6 false ⟨#[], #[.agg #[.int .u8 0, .int .u8 0, .int .u8 0], .slice none 0 0], []⟩ 8 (by kernel_rfl) (by kernel_rfl) (by kernel_rfl) (by kernel_rfl)) ?_
  intro W base args ds gs before hval hW _ _
  exact contract H enc W base args ds gs before hval hW

theorem proved : Rows.MarkPartsSaid :=
  OpenClaim.holds_of_wide 3 Try.f3 rfl rfl rfl rfl rfl rfl rfl ⟨rfl, rfl, rfl, rfl, rfl⟩ rfl rfl rfl rfl rfl (by kernel_rfl) Try.func3 (by kernel_rfl)
    (of_decide_eq_true (by kernel_rfl)) (by unfold Func.isWrapper; first | (rw [if_pos (by decide +kernel)]; kernel_rfl) | (rw [if_neg (by decide +kernel)]; exact ⟨rfl, rfl⟩))
    (fun os started H enc _ => lifted os started H enc)
end Go.Proofs.Ytpnlenpglmffdaa.markParts
