/-
  Contracts of core.Heard, Ok, Beat.
-/
import Derived.Test.YtjnlkljmaiddnaaCo6
set_option linter.unusedVariables false
set_option linter.unusedSimpArgs false
set_option maxRecDepth 10000

namespace SL
open Go Go.Proofs Go.RowKit
def okR (s : Cs) (f : Nat) (mo dn : Int) : Cs := { s with has := s.has.set f (max (nat_ s.has f) mo), dones := s.dones.set f (max (nat_ s.dones f) dn) }
def beatR (s : Cs) (dn : Int) : Cs := { s with dones := s.dones.set s.me (max (nat_ s.dones s.me) dn) }
theorem map_iv_at {l : List Int} {i : Nat} (h : i < l.length) : (l.map iv)[i]? = some (iv (nat_ l i)) := by
  rw [List.getElem?_map, List.getElem?_eq_getElem h, nat_eq h]; rfl
attribute [local irreducible] SL.TK SL.TO SL.TD SL.PV SL.Pick SL.Frm SL.Ent SL.Sub SL.EvAll SL.seps SL.sep SL.Cut SL.PutAt SL.blk SL.EvP SL.Fill SL.Src SL.EntD SL.own SL.ex SL.fact SL.orig
theorem learns_open (cb lb me n v base : Nat) (es : List En) (co0 fl0 : Int) (cs : List Value) (hbase : base ≤ 1099511627776) (hlen : es.length ≤ 64) (m : Mg) (a : Option Addr) (c : Nat) (done : Int) :
    Spec Try.prog 79 [.pointer (some ⟨cb, 0, none⟩), .agg (mgC m a c).toArray, .int .u64 done] [SL.blk cb 127 (.int .i64 me :: .int .i64 n :: .int .u64 v :: .pointer (some ⟨lb, 0, none⟩) :: .int .u64 co0 :: .int .u64 fl0 :: cs), LogAt lb base es]
    (fun r L => r = .agg (mgC ⟨5, v, me, (base + es.length : Nat), 0, 0, done, e0⟩ none 0).toArray ∧ L = [SL.blk cb 127 (.int .i64 me :: .int .i64 n :: .int .u64 v :: .pointer (some ⟨lb, 0, none⟩) :: .int .u64 (max co0 (min m.commit (base + es.length : Nat))) :: .int .u64 (max fl0 (min m.floor (max co0 (min m.commit (base + es.length : Nat))))) :: cs), LogAt lb base es]) := by
  obtain ⟨mk, mv, mf, mo, mc, mfl, md, me_⟩ := m
  simp only
  refine SL.Spec.of_TK Go.Proofs.Try.func79 rfl rfl SL.call79 rfl ?_
  have hop := Lib.hid (lgOpA_spec lb base es hbase (by omega))
  obtain ⟨op, hope⟩ : ∃ op : Nat, op = base + es.length := ⟨_, rfl⟩
  rw [← hope] at hop ⊢
  unfold mgC e0
  clear hope
  repeat' (first | (refine SL.TO.is ?_; first | (refine SL.W.quick ?_; first | refine SL.W.pass ?_ | refine SL.W.pv ?_ | refine SL.W.pv0 ?_) | (refine SL.TO.door (o := ⟨_, .call _, _, _, _, _⟩) ?_; first | (refine SL.TO.door (o := ⟨_, .call ⟨.value (.func 71), _, _⟩, _, _, _, _⟩) ?_; first | refine SL.W.callQ hop.out ?_)) | refine SL.TO.nil ?_ | (refine SL.TO.nilD ?_; simp only [SL.setB]) | refine SL.W.pass ?_ | refine SL.W.pass0 ?_ | (refine SL.W.pure ?_; first | refine SL.W.pv ?_ | refine SL.W.pv0 ?_) | (refine SL.W.loud ?_; first | refine SL.W.load ?_ | refine SL.W.loadA ?_ | refine SL.W.store ?_ | refine SL.W.storeA ?_ | (refine SL.W.box ?_; intro b) | (refine SL.W.alloc ?_; intro b) | (refine SL.W.buildSlice ?_; intro b) | (refine SL.W.append ?_; intro a cap) | refine SL.W.bytesToStr ?_ | refine SL.W.pvn (SL.PV.toIntC (by rfl) (by first | exact SL.wrap_i64 (by omega) | exact SL.wrap_u8 (by omega) | exact SL.wrap_u32 (by omega) | exact SL.wrap_u64 (by omega) | rfl)) ?_ | (refine SL.W.makeSlice ?_; intro b)) | (refine SL.W.guardP (fun h => ?_) (fun h => ?_) <;> (fail_if_success (have : h = trivial := rfl)) <;> (fail_if_success (have : h = not_false := rfl)) <;> first | contradiction | (exfalso; omega) | (exfalso; revert h; simp; done) | skip) | (refine SL.W.guardB (fun h => ?_) (fun h => ?_) <;> (fail_if_success (have : h = (rfl : true = true) := rfl)) <;> (fail_if_success (have : h = (rfl : false = false) := rfl)))) | (refine SL.TK.is ?_; first | refine SL.TK.seq ?_ | refine SL.TK.region ?_ | refine SL.TK.regionD SL.mixed (by simp only [SL.falses] <;> rfl) ?_ | refine SL.TK.block ?_ | refine SL.TK.inBlock ?_ | refine SL.TK.skip ?_ | refine SL.TK.scope ?_ | refine SL.TK.inScope ?_ | refine SL.TK.label ?_ | (refine SL.TK.isExit ?_; refine SL.W.exit ?_) | refine SL.W.condT ?_ | refine SL.W.condF ?_ | (refine SL.W.condP (fun h => ?_) (fun h => ?_) <;> (fail_if_success (have : h = trivial := rfl)) <;> (fail_if_success (have : h = not_false := rfl)) <;> first | contradiction | (exfalso; omega) | (exfalso; revert h; simp; done) | skip) | refine SL.W.condB (fun h => ?_) (fun h => ?_)) | (refine SL.TD.is ?_; first | (refine SL.W.dfin ?_; simp only [List.append_nil, List.cons_append, List.nil_append]) | refine SL.W.dpass ?_ | refine SL.W.dpure ?_ | refine SL.W.dload ?_ | refine SL.W.dloadA ?_ | refine SL.W.dfrz ?_ | (refine SL.W.dthaw ?_; simp only [List.append_nil, List.cons_append, List.nil_append]) | (refine SL.W.dguardP (fun h => ?_) (fun h => ?_) <;> (fail_if_success (have : h = trivial := rfl)) <;> (fail_if_success (have : h = not_false := rfl)) <;> first | contradiction | (exfalso; omega) | (exfalso; revert h; simp; done) | skip) | (refine SL.W.dguardB (fun h => ?_) (fun h => ?_) <;> (fail_if_success (have : h = (rfl : true = true) := rfl)) <;> (fail_if_success (have : h = (rfl : false = false) := rfl))) | refine SL.W.done ?_ | refine SL.W.dtwo ?_ ?_ | refine SL.W.dthree ?_ ?_ ?_))
  all_goals exact SL.TK.retD Try.func79 (SL.Res.cellA (sz := 20) (vs := mgC ⟨5, v, me, op, 0, 0, done, e0⟩ none 0) rfl (by rfl) (by first | ((repeat (first | exact SL.Pick.head | apply SL.Pick.tail)); done) | fail) (cut_self rfl)) ⟨rfl, rfl⟩ (EntD.cons (by first | ((repeat (first | exact SL.Pick.head | apply SL.Pick.tail)); done) | fail) (EntD.cons (by first | ((repeat (first | exact SL.Pick.head | apply SL.Pick.tail)); done) | fail) EntD.nil))
theorem heard_spec (cb : Nat) (s : Cs) (hs : CsOk s) (hp : ¬ s.view % s.n = s.me) (f mo co fl dn done : Int) (e : En) (a : Option Addr) (c : Nat) :
    Spec Try.prog 67 [.pointer (some ⟨cb, 0, none⟩), .agg (mgC ⟨6, s.view, f, mo, co, fl, dn, e⟩ a c).toArray, .int .u64 done] [CoreAt cb s]
    (fun r L => r = .tuple #[.agg (mgC ⟨5, s.view, s.me, s.op, 0, 0, done, e0⟩ none 0).toArray, .bool (decide ((s.op : Int) < mo)), .int .i64 0] ∧ L = [CoreAt cb (learnR s co fl)]) := by
  obtain ⟨h1, h7, hme, hv, hbase, hlen, hcmd⟩ := hs
  obtain ⟨me, n, v, base, es, co0, fl0, ha, dn0⟩ := s
  unfold learnR Cs.op
  simp only at h1 h7 hme hv hbase hlen hcmd hp ⊢
  have hrt := Lib.hid fun (lb : Nat) => right_ok cb lb me n v (.int .u64 co0 :: .int .u64 fl0 :: (ha.map iv ++ dn0.map iv)) h1 h7 hv false (by simp [hp]) 6 f mo co fl dn e a c
  have hle := Lib.hid fun (lb : Nat) => learns_open cb lb me n v base es co0 fl0 (ha.map iv ++ dn0.map iv) hbase hlen ⟨6, v, f, mo, co, fl, dn, e⟩ a c done
  have hop := Lib.hid fun (lb : Nat) => lgOpA_spec lb base es hbase (by omega)
  obtain ⟨op, hope⟩ : ∃ op : Nat, op = base + es.length := ⟨_, rfl⟩
  rw [← hope] at hle hop ⊢
  unfold mgC at hrt hle ⊢
  unfold e0 at hle ⊢
  simp only at hrt hle ⊢
  clear hcmd hp hope
  refine SL.Spec.of_TK Go.Proofs.Try.func67 rfl rfl SL.call67 rfl ?_
  refine SL.TK.openCo (by first | ((repeat (first | exact SL.Pick.head | apply SL.Pick.tail)); done) | fail) (fun lb hl dl => ?_)
  simp only at hl dl ⊢
  have hfin := Lib.hid fun (co fl : Int) => co_shut (cb := cb) (lb := lb) (s := ⟨me, n, v, base, es, co, fl, ha, dn0⟩) hl dl
  clear hl dl
  repeat' (first | (refine SL.TO.is ?_; first | (refine SL.W.quick ?_; first | refine SL.W.pass ?_ | refine SL.W.pv ?_ | refine SL.W.pv0 ?_) | (refine SL.TO.door (o := ⟨_, .call _, _, _, _, _⟩) ?_; first | (refine SL.TO.door (o := ⟨_, .call ⟨.value (.func 78), _, _⟩, _, _, _, _⟩) ?_; first | (refine SL.W.call (hrt.out _) ?_; rintro _ _ ⟨rfl, rfl⟩; try simp only [List.cons_append, List.nil_append])) | (refine SL.TO.door (o := ⟨_, .call ⟨.value (.func 71), _, _⟩, _, _, _, _⟩) ?_; first | refine SL.W.callQ (hop.out _) ?_) | (refine SL.TO.door (o := ⟨_, .call ⟨.value (.func 79), _, _⟩, _, _, _, _⟩) ?_; first | (refine SL.W.call (hle.out _) ?_; rintro _ _ ⟨rfl, rfl⟩; try simp only [List.cons_append, List.nil_append]))) | refine SL.TO.nil ?_ | (refine SL.TO.nilD ?_; simp only [SL.setB]) | refine SL.W.pass ?_ | refine SL.W.pass0 ?_ | (refine SL.W.pure ?_; first | refine SL.W.pv ?_ | refine SL.W.pv0 ?_) | (refine SL.W.loud ?_; first | refine SL.W.load ?_ | refine SL.W.loadA ?_ | refine SL.W.store ?_ | refine SL.W.storeA ?_ | (refine SL.W.box ?_; intro b) | (refine SL.W.alloc ?_; intro b) | (refine SL.W.buildSlice ?_; intro b) | (refine SL.W.append ?_; intro a cap) | refine SL.W.bytesToStr ?_ | refine SL.W.pvn (SL.PV.toIntC (by rfl) (by first | exact SL.wrap_i64 (by omega) | exact SL.wrap_u8 (by omega) | exact SL.wrap_u32 (by omega) | exact SL.wrap_u64 (by omega) | rfl)) ?_ | (refine SL.W.makeSlice ?_; intro b)) | (refine SL.W.guardP (fun h => ?_) (fun h => ?_) <;> (fail_if_success (have : h = trivial := rfl)) <;> (fail_if_success (have : h = not_false := rfl)) <;> first | contradiction | (exfalso; omega) | (exfalso; revert h; simp; done) | skip) | (refine SL.W.guardB (fun h => ?_) (fun h => ?_) <;> (fail_if_success (have : h = (rfl : true = true) := rfl)) <;> (fail_if_success (have : h = (rfl : false = false) := rfl)))) | (refine SL.TK.is ?_; first | refine SL.TK.seq ?_ | refine SL.TK.region ?_ | refine SL.TK.regionD SL.mixed (by simp only [SL.falses] <;> rfl) ?_ | refine SL.TK.block ?_ | refine SL.TK.inBlock ?_ | refine SL.TK.skip ?_ | refine SL.TK.scope ?_ | refine SL.TK.inScope ?_ | refine SL.TK.label ?_ | (refine SL.TK.isExit ?_; refine SL.W.exit ?_) | refine SL.W.condT ?_ | refine SL.W.condF ?_ | (refine SL.W.condP (fun h => ?_) (fun h => ?_) <;> (fail_if_success (have : h = trivial := rfl)) <;> (fail_if_success (have : h = not_false := rfl)) <;> first | contradiction | (exfalso; omega) | (exfalso; revert h; simp; done) | skip) | refine SL.W.condB (fun h => ?_) (fun h => ?_)) | (refine SL.TD.is ?_; first | ((fail_if_success have := hfz); refine SL.TD.freeze (c := SL.blk _ 83 [.int .i64 6, _, _, _, _, _, _, _, _, _, _, _, _, _, _, _, _, _, _, _]) (by first | ((repeat (first | exact SL.Pick.head | apply SL.Pick.tail)); done) | fail) ?_; have hfz := trivial) | refine SL.W.dload ?_ | refine SL.W.dloadA ?_ | (refine SL.W.dfin ?_; simp only [List.append_nil, List.cons_append, List.nil_append]) | refine SL.W.dpass ?_ | refine SL.W.dpure ?_ | (refine SL.W.dguardP (fun h => ?_) (fun h => ?_) <;> (fail_if_success (have : h = trivial := rfl)) <;> (fail_if_success (have : h = not_false := rfl)) <;> first | contradiction | (exfalso; omega) | (exfalso; revert h; simp; done) | skip) | (refine SL.W.dguardB (fun h => ?_) (fun h => ?_) <;> (fail_if_success (have : h = (rfl : true = true) := rfl)) <;> (fail_if_success (have : h = (rfl : false = false) := rfl))) | refine SL.W.done ?_ | refine SL.W.dtwo ?_ ?_ | refine SL.W.dthree ?_ ?_ ?_))
  all_goals exact SL.TK.retD Try.func67 (SL.Res.cellATT (sz := 20) (vs := mgC ⟨5, v, me, op, 0, 0, done, e0⟩ none 0) rfl (by rfl) (by rfl) (by rfl) (by first | ((repeat (first | exact SL.Pick.head | apply SL.Pick.tail)); done) | fail) (cut_self rfl)) ⟨rfl, rfl⟩ (EntD.frm (pre := [SL.blk cb 127 (.int .i64 me :: .int .i64 n :: .int .u64 v :: .pointer (some ⟨lb, 0, none⟩) :: .int .u64 _ :: .int .u64 _ :: (ha.map iv ++ dn0.map iv)), LogAt lb base es]) (by first | ((repeat (first | exact SL.Frm.nil | exact SL.Frm.refl | (apply SL.Frm.cons; repeat (first | exact SL.Pick.head | apply SL.Pick.tail)))); done) | fail) (hfin.out _ _) EntD.nil)
theorem ok_spec (cb : Nat) (s : Cs) (hs : CsOk s) (hp : s.view % s.n = s.me) (f : Nat) (mo co fl dn : Int) (e : En) (a : Option Addr) (c : Nat) (hf : f < s.n) (hfm : ¬ f = s.me) (hmo : mo ≤ s.op) :
    Spec Try.prog 57 [.pointer (some ⟨cb, 0, none⟩), .agg (mgC ⟨5, s.view, f, mo, co, fl, dn, e⟩ a c).toArray] [CoreAt cb s]
    (fun r L => r = .tuple #[.bool (decide (s.commit < (goesR (okR s f mo dn)).commit)), .int .i64 0] ∧ L = [CoreAt cb (goesR (okR s f mo dn))]) := by
  obtain ⟨h1, h7, hme, hv, hbase, hlen, hcmd⟩ := hs
  obtain ⟨me, n, v, base, es, co0, fl0, ha, dn0⟩ := s
  unfold Cs.op at hmo
  simp only at h1 h7 hme hv hbase hlen hcmd hp hf hfm hmo ⊢
  have hgo := goes_spec cb (okR ⟨me, n, v, base, es, co0, fl0, ha, dn0⟩ f mo dn) ⟨h1, h7, hme, hv, hbase, hlen, hcmd⟩
  obtain ⟨S, hS⟩ : ∃ S, S = okR ⟨me, n, v, base, es, co0, fl0, ha, dn0⟩ f mo dn := ⟨_, rfl⟩
  have hSc : S.commit = co0 := by rw [hS]; rfl
  rw [← hS, hSc] at hgo
  rw [← hS]
  have hgo := Lib.hid hgo
  have hrt := Lib.hid fun (lb : Nat) => right_ok cb lb me n v (.int .u64 co0 :: .int .u64 fl0 :: (ha.map iv ++ dn0.map iv)) h1 h7 hv true (by simp [hp]) 5 f mo co fl dn e a c
  have hop := Lib.hid fun (lb : Nat) => lgOpA_spec lb base es hbase (by omega)
  obtain ⟨op, hope⟩ : ∃ op : Nat, op = base + es.length := ⟨_, rfl⟩
  rw [← hope] at hop hmo
  unfold mgC at hrt ⊢
  simp only at hrt ⊢
  refine SL.Spec.of_TK Go.Proofs.Try.func57 rfl rfl SL.call57 rfl ?_
  refine SL.TK.openCo (by first | ((repeat (first | exact SL.Pick.head | apply SL.Pick.tail)); done) | fail) (fun lb hl dl => ?_)
  simp only at hl dl ⊢
  have hnh := fun (c0 c1 c2 c3 c4 c5 : Value) (ds : List Value) => nthHs (c0 := c0) (c1 := c1) (c2 := c2) (c3 := c3) (c4 := c4) (c5 := c5) (hs := ha.map iv) (ds := ds) (map_iv_at (l := ha) (i := f) (by omega))
  have hph := fun (c0 c1 c2 c3 c4 c5 : Value) => putH (c0 := c0) (c1 := c1) (c2 := c2) (c3 := c3) (c4 := c4) (c5 := c5) (v := iv (max (nat_ ha f) mo)) (hs := ha.map iv) (ds := dn0.map iv) (i := f) (by simp [hl]; omega)
  have hl2 : (ha.set f (max (nat_ ha f) mo)).length = 7 := by simp [hl]
  have hnd := fun (c0 c1 c2 c3 c4 c5 : Value) => nthDs (c0 := c0) (c1 := c1) (c2 := c2) (c3 := c3) (c4 := c4) (c5 := c5) (hs := (ha.set f (max (nat_ ha f) mo)).map iv) (by simp [hl]) (map_iv_at (l := dn0) (i := f) (by omega))
  have hpd := fun (c0 c1 c2 c3 c4 c5 : Value) => putD (c0 := c0) (c1 := c1) (c2 := c2) (c3 := c3) (c4 := c4) (c5 := c5) (v := iv (max (nat_ dn0 f) dn)) (hs := (ha.set f (max (nat_ ha f) mo)).map iv) (ds := dn0.map iv) (i := f) (by simp [hl]) (by simp [dl]; omega)
  rw [show (ha.map iv).set f (iv (max (nat_ ha f) mo)) = (ha.set f (max (nat_ ha f) mo)).map iv from by rw [List.map_set]] at hph
  rw [show (dn0.map iv).set f (iv (max (nat_ dn0 f) dn)) = (dn0.set f (max (nat_ dn0 f) dn)).map iv from by rw [List.map_set]] at hpd
  have hfin := co_shut (cb := cb) (lb := lb) (s := okR ⟨me, n, v, base, es, co0, fl0, ha, dn0⟩ f mo dn) (by simp [okR, hl]) (by simp [okR, dl])
  rw [← hS] at hfin
  unfold okR at hS
  simp only at hS
  subst hS
  have hfin := Lib.hid hfin
  simp only at hfin
  obtain ⟨h_, hh_⟩ : ∃ h, h = nat_ ha f := ⟨_, rfl⟩
  obtain ⟨d_, hd_⟩ : ∃ d, d = nat_ dn0 f := ⟨_, rfl⟩
  rw [← hh_] at hnh hph hnd hpd hfin hgo ⊢
  rw [← hd_] at hnd hpd hfin hgo ⊢
  obtain ⟨hs1, hhs1⟩ : ∃ l, l = ha.map iv := ⟨_, rfl⟩
  obtain ⟨ds1, hds1⟩ : ∃ l, l = dn0.map iv := ⟨_, rfl⟩
  obtain ⟨hs2, hhs2⟩ : ∃ l, l = (ha.set f (max h_ mo)).map iv := ⟨_, rfl⟩
  obtain ⟨ds2, hds2⟩ : ∃ l, l = (dn0.set f (max d_ dn)).map iv := ⟨_, rfl⟩
  rw [← hhs1] at hnh hph
  rw [← hhs2] at hph hnd hpd hfin
  rw [← hds1] at hph hnd hpd
  rw [← hds2] at hpd hfin
  rw [← hhs1, ← hds1] at hrt ⊢
  unfold iv at hnh hph hnd hpd
  simp only [Nat.mul_one] at hnh hph hnd hpd
  clear hcmd hp hope hSc hh_ hd_ hhs1 hds1 hhs2 hds2 hl dl hl2
  repeat' (first | (refine SL.TO.is ?_; first | (refine SL.W.quick ?_; first | refine SL.W.pass ?_ | refine SL.W.pv ?_ | refine SL.W.pv0 ?_) | (refine SL.TO.door (o := ⟨_, .call _, _, _, _, _⟩) ?_; first | (refine SL.TO.door (o := ⟨_, .call ⟨.value (.func 78), _, _⟩, _, _, _, _⟩) ?_; first | (refine SL.W.call (hrt.out _) ?_; rintro _ _ ⟨rfl, rfl⟩; try simp only [List.cons_append, List.nil_append])) | (refine SL.TO.door (o := ⟨_, .call ⟨.value (.func 71), _, _⟩, _, _, _, _⟩) ?_; first | refine SL.W.callQ (hop.out _) ?_) | (refine SL.TO.door (o := ⟨_, .call ⟨.value (.func 73), _, _⟩, _, _, _, _⟩) ?_; first | (refine SL.W.call (hgo.out) ?_; rintro _ _ ⟨rfl, rfl⟩; try simp only [List.cons_append, List.nil_append]))) | (refine SL.TO.door (o := ⟨_, .store _ _ _, _, _, _, _⟩) ?_; first | refine SL.W.storeN (hph _ _ _ _ _ _) ?_ | refine SL.W.storeN (hpd _ _ _ _ _ _) ?_) | refine SL.TO.nil ?_ | (refine SL.TO.nilD ?_; simp only [SL.setB]) | refine SL.W.pass ?_ | refine SL.W.pass0 ?_ | (refine SL.W.pure ?_; first | refine SL.W.pv ?_ | refine SL.W.pv0 ?_) | (refine SL.W.loud ?_; first | refine SL.W.load ?_ | refine SL.W.loadA ?_ | refine SL.W.store ?_ | refine SL.W.storeA ?_ | (refine SL.W.box ?_; intro b) | (refine SL.W.alloc ?_; intro b) | (refine SL.W.buildSlice ?_; intro b) | (refine SL.W.append ?_; intro a cap) | refine SL.W.bytesToStr ?_ | refine SL.W.pvn (SL.PV.toIntC (by rfl) (by first | exact SL.wrap_i64 (by omega) | exact SL.wrap_u8 (by omega) | exact SL.wrap_u32 (by omega) | exact SL.wrap_u64 (by omega) | rfl)) ?_ | (refine SL.W.makeSlice ?_; intro b)) | (refine SL.W.guardP (fun h => ?_) (fun h => ?_) <;> (fail_if_success (have : h = trivial := rfl)) <;> (fail_if_success (have : h = not_false := rfl)) <;> first | contradiction | (exfalso; omega) | (exfalso; revert h; simp; done) | skip) | (refine SL.W.guardB (fun h => ?_) (fun h => ?_) <;> (fail_if_success (have : h = (rfl : true = true) := rfl)) <;> (fail_if_success (have : h = (rfl : false = false) := rfl)))) | (refine SL.TK.is ?_; first | (refine SL.TK.atR (id := 8) ?_; refine SL.TK.entD (EntD.frm (pre := [SL.blk cb 127 (.int .i64 me :: .int .i64 n :: .int .u64 v :: .pointer (some ⟨lb, 0, none⟩) :: .int .u64 co0 :: .int .u64 fl0 :: (hs2 ++ ds2)), LogAt lb base es]) (by first | ((repeat (first | exact SL.Frm.nil | exact SL.Frm.refl | (apply SL.Frm.cons; repeat (first | exact SL.Pick.head | apply SL.Pick.tail)))); done) | fail) hfin.out EntD.refl) ?_) | refine SL.TK.seq ?_ | refine SL.TK.region ?_ | refine SL.TK.regionD SL.mixed (by simp only [SL.falses] <;> rfl) ?_ | refine SL.TK.block ?_ | refine SL.TK.inBlock ?_ | refine SL.TK.skip ?_ | refine SL.TK.scope ?_ | refine SL.TK.inScope ?_ | refine SL.TK.label ?_ | (refine SL.TK.isExit ?_; refine SL.W.exit ?_) | refine SL.W.condT ?_ | refine SL.W.condF ?_ | (refine SL.W.condP (fun h => ?_) (fun h => ?_) <;> (fail_if_success (have : h = trivial := rfl)) <;> (fail_if_success (have : h = not_false := rfl)) <;> first | contradiction | (exfalso; omega) | (exfalso; revert h; simp; done) | skip) | refine SL.W.condB (fun h => ?_) (fun h => ?_)) | (refine SL.TD.is ?_; first | refine SL.W.dpure (hv := PV.indexArr und125 size64 (by omega) (by rfl) (by rfl) rfl (by omega) (by (try simp only [Nat.zero_add, Nat.add_zero, Nat.reduceAdd, Nat.reduceMul, Nat.mul_one]) <;> rfl)) ?_ | refine SL.W.dloadN (hnh _ _ _ _ _ _ _) ?_ | refine SL.W.dloadN (hnd _ _ _ _ _ _) ?_ | (refine SL.W.dfin ?_; simp only [List.append_nil, List.cons_append, List.nil_append]) | refine SL.W.dpass ?_ | refine SL.W.dpure ?_ | refine SL.W.dload ?_ | refine SL.W.dloadA ?_ | refine SL.W.dfrz ?_ | (refine SL.W.dthaw ?_; simp only [List.append_nil, List.cons_append, List.nil_append]) | (refine SL.W.dguardP (fun h => ?_) (fun h => ?_) <;> (fail_if_success (have : h = trivial := rfl)) <;> (fail_if_success (have : h = not_false := rfl)) <;> first | contradiction | (exfalso; omega) | (exfalso; revert h; simp; done) | skip) | (refine SL.W.dguardB (fun h => ?_) (fun h => ?_) <;> (fail_if_success (have : h = (rfl : true = true) := rfl)) <;> (fail_if_success (have : h = (rfl : false = false) := rfl))) | refine SL.W.done ?_ | refine SL.W.dtwo ?_ ?_ | refine SL.W.dthree ?_ ?_ ?_))
  all_goals exact SL.TK.retD Try.func57 (SL.Res.two rfl (by rfl) (by rfl)) ⟨rfl, rfl⟩ (EntD.cons (by first | ((repeat (first | exact SL.Pick.head | apply SL.Pick.tail)); done) | fail) EntD.nil)
end SL
