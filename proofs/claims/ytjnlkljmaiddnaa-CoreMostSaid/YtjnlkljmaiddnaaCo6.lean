/-
  Contracts of core.Prepare, Heard.
-/
import Derived.Test.YtjnlkljmaiddnaaCo5
set_option linter.unusedVariables false
set_option linter.unusedSimpArgs false
set_option maxRecDepth 10000

namespace SL
open Go Go.Proofs Go.RowKit
attribute [local irreducible] SL.TK SL.TO SL.TD SL.PV SL.Pick SL.Frm SL.Ent SL.Sub SL.EvAll SL.seps SL.sep SL.Cut SL.PutAt SL.blk SL.EvP SL.Fill SL.Src SL.EntD SL.own SL.ex SL.fact SL.orig
theorem prep_next {Y : HProp} (cb : Nat) (s : Cs) (hs : CsOk s) (hp : ¬ s.view % s.n = s.me) (f co fl dn done : Int) (e : En) (a : Option Addr) (c : Nat) (hY : RdB Y a e.2.2.2) (hel : e.2.2.2.length ≤ 1000000000000) (hlt : s.es.length < 64) :
    Spec Try.prog 52 [.pointer (some ⟨cb, 0, none⟩), .agg (mgC ⟨4, s.view, f, (s.op + 1 : Nat), co, fl, dn, e⟩ a c).toArray, .int .u64 done] [CoreAt cb s, Y]
    (fun r L => r = .tuple #[.agg (mgC ⟨5, s.view, s.me, (s.op + 1 : Nat), 0, 0, done, e0⟩ none 0).toArray, .bool false, .int .i64 0] ∧ L = [CoreAt cb (learnR { s with es := s.es ++ [e] } co fl), Y]) := by
  obtain ⟨h1, h7, hme, hv, hbase, hlen, hcmd⟩ := hs
  obtain ⟨me, n, v, base, es, co0, fl0, ha, dn0⟩ := s
  unfold Cs.op
  simp only at h1 h7 hme hv hbase hlen hcmd hp hlt ⊢
  have hok2 : CsOk ⟨me, n, v, base, es ++ [e], co0, fl0, ha, dn0⟩ := ⟨h1, h7, hme, hv, hbase, (by simp; omega), fun x hx => by
    rcases List.mem_append.1 hx with hx | hx
    · exact hcmd x hx
    · simp at hx; subst hx; exact hel⟩
  have hrt := Lib.hid fun (lb : Nat) => right_ok cb lb me n v (.int .u64 co0 :: .int .u64 fl0 :: (ha.map iv ++ dn0.map iv)) h1 h7 hv false (by simp [hp]) 4 f (base + es.length + 1 : Nat) co fl dn e a c
  have hle := Lib.hid (learns_spec cb ⟨me, n, v, base, es ++ [e], co0, fl0, ha, dn0⟩ hok2 ⟨4, v, f, (base + es.length + 1 : Nat), co, fl, dn, e⟩ a c done)
  have hap := Lib.hid fun (lb : Nat) => lgAppend_spec (c := c) lb base es e hY hel hlt hbase
  have hop := Lib.hid fun (lb : Nat) => lgOpA_spec lb base es hbase (by omega)
  unfold Cs.op at hle
  simp only [List.length_append, List.length_singleton] at hle
  rw [show base + (es.length + 1) = base + es.length + 1 from by omega] at hle hap
  obtain ⟨op, hope⟩ : ∃ op : Nat, op = base + es.length := ⟨_, rfl⟩
  rw [← hope] at hrt hle hap hop ⊢
  have hopb : op ≤ 1099511627900 := by omega
  unfold mgC at hrt hle ⊢
  unfold e0 at hle ⊢
  unfold enC at hap
  clear hcmd hok2 hY hel hp hope
  simp only at hrt hle hap ⊢
  refine SL.Spec.of_TK Go.Proofs.Try.func52 rfl rfl SL.call52 rfl ?_
  refine SL.TK.openCo (by first | ((repeat (first | exact SL.Pick.head | apply SL.Pick.tail)); done) | fail) (fun lb hl dl => ?_)
  simp only at hl dl ⊢
  have hfin := Lib.hid (co_shut (cb := cb) (lb := lb) (s := ⟨me, n, v, base, es ++ [e], co0, fl0, ha, dn0⟩) hl dl)
  clear hl dl
  repeat' (first | (refine SL.TO.is ?_; first | (refine SL.W.quick ?_; first | refine SL.W.pass ?_ | refine SL.W.pv ?_ | refine SL.W.pv0 ?_) | (refine SL.TO.door (o := ⟨_, .call _, _, _, _, _⟩) ?_; first | (refine SL.TO.door (o := ⟨_, .call ⟨.value (.func 78), _, _⟩, _, _, _, _⟩) ?_; first | (refine SL.W.call (hrt.out _) ?_; rintro _ _ ⟨rfl, rfl⟩; try simp only [List.cons_append, List.nil_append])) | (refine SL.TO.door (o := ⟨_, .call ⟨.value (.func 71), _, _⟩, _, _, _, _⟩) ?_; first | refine SL.W.callQ (hop.out _) ?_) | (refine SL.TO.door (o := ⟨_, .call ⟨.value (.func 72), _, _⟩, _, _, _, _⟩) ?_; first | (refine SL.W.call (hap.out _) ?_; rintro _ _ ⟨rfl, rfl⟩; try simp only [List.cons_append, List.nil_append])) | (refine SL.TO.door (o := ⟨_, .call ⟨.value (.func 79), _, _⟩, _, _, _, _⟩) ?_; first | (refine SL.W.call (hle.out) ?_; rintro _ _ ⟨rfl, rfl⟩; try simp only [List.cons_append, List.nil_append]))) | refine SL.TO.nil ?_ | (refine SL.TO.nilD ?_; simp only [SL.setB]) | refine SL.W.pass ?_ | refine SL.W.pass0 ?_ | (refine SL.W.pure ?_; first | refine SL.W.pv ?_ | refine SL.W.pv0 ?_) | (refine SL.W.loud ?_; first | refine SL.W.load ?_ | refine SL.W.loadA ?_ | refine SL.W.store ?_ | refine SL.W.storeA ?_ | (refine SL.W.box ?_; intro b) | (refine SL.W.alloc ?_; intro b) | (refine SL.W.buildSlice ?_; intro b) | (refine SL.W.append ?_; intro a cap) | refine SL.W.bytesToStr ?_ | refine SL.W.pvn (SL.PV.toIntC (by rfl) (by first | exact SL.wrap_i64 (by omega) | exact SL.wrap_u8 (by omega) | exact SL.wrap_u32 (by omega) | exact SL.wrap_u64 (by omega) | rfl)) ?_ | (refine SL.W.makeSlice ?_; intro b)) | (refine SL.W.guardP (fun h => ?_) (fun h => ?_) <;> (fail_if_success (have : h = trivial := rfl)) <;> (fail_if_success (have : h = not_false := rfl)) <;> first | contradiction | (exfalso; omega) | (exfalso; revert h; simp; done) | skip) | (refine SL.W.guardB (fun h => ?_) (fun h => ?_) <;> (fail_if_success (have : h = (rfl : true = true) := rfl)) <;> (fail_if_success (have : h = (rfl : false = false) := rfl)))) | (refine SL.TK.is ?_; first | (refine SL.TK.atR (id := 10) ?_; refine SL.TK.entD (EntD.frm (pre := [SL.blk cb 127 (.int .i64 me :: .int .i64 n :: .int .u64 v :: .pointer (some ⟨lb, 0, none⟩) :: .int .u64 co0 :: .int .u64 fl0 :: (ha.map iv ++ dn0.map iv)), LogAt lb base (es ++ [e])]) (by first | ((repeat (first | exact SL.Frm.nil | exact SL.Frm.refl | (apply SL.Frm.cons; repeat (first | exact SL.Pick.head | apply SL.Pick.tail)))); done) | fail) hfin.out EntD.refl) ?_) | refine SL.TK.seq ?_ | refine SL.TK.region ?_ | refine SL.TK.regionD SL.mixed (by simp only [SL.falses] <;> rfl) ?_ | refine SL.TK.block ?_ | refine SL.TK.inBlock ?_ | refine SL.TK.skip ?_ | refine SL.TK.scope ?_ | refine SL.TK.inScope ?_ | refine SL.TK.label ?_ | (refine SL.TK.isExit ?_; refine SL.W.exit ?_) | refine SL.W.condT ?_ | refine SL.W.condF ?_ | (refine SL.W.condP (fun h => ?_) (fun h => ?_) <;> (fail_if_success (have : h = trivial := rfl)) <;> (fail_if_success (have : h = not_false := rfl)) <;> first | contradiction | (exfalso; omega) | (exfalso; revert h; simp; done) | skip) | refine SL.W.condB (fun h => ?_) (fun h => ?_)) | (refine SL.TD.is ?_; first | (refine SL.W.dfin ?_; simp only [List.append_nil, List.cons_append, List.nil_append]) | refine SL.W.dpass ?_ | refine SL.W.dpure ?_ | refine SL.W.dload ?_ | refine SL.W.dloadA ?_ | refine SL.W.dfrz ?_ | (refine SL.W.dthaw ?_; simp only [List.append_nil, List.cons_append, List.nil_append]) | (refine SL.W.dguardP (fun h => ?_) (fun h => ?_) <;> (fail_if_success (have : h = trivial := rfl)) <;> (fail_if_success (have : h = not_false := rfl)) <;> first | contradiction | (exfalso; omega) | (exfalso; revert h; simp; done) | skip) | (refine SL.W.dguardB (fun h => ?_) (fun h => ?_) <;> (fail_if_success (have : h = (rfl : true = true) := rfl)) <;> (fail_if_success (have : h = (rfl : false = false) := rfl))) | refine SL.W.done ?_ | refine SL.W.dtwo ?_ ?_ | refine SL.W.dthree ?_ ?_ ?_))
  all_goals exact SL.TK.retD Try.func52 (SL.Res.cellATT (sz := 20) (vs := mgC ⟨5, v, me, (op + 1 : Nat), 0, 0, done, e0⟩ none 0) rfl (by rfl) (by rfl) (by rfl) (by first | ((repeat (first | exact SL.Pick.head | apply SL.Pick.tail)); done) | fail) (cut_self rfl)) ⟨rfl, rfl⟩ (EntD.cons (by first | ((repeat (first | exact SL.Pick.head | apply SL.Pick.tail)); done) | fail) (EntD.cons (by first | ((repeat (first | exact SL.Pick.head | apply SL.Pick.tail)); done) | fail) EntD.nil))
/-- an entry that stands there already -/
theorem prep_old (cb : Nat) (s : Cs) (hs : CsOk s) (hp : ¬ s.view % s.n = s.me) (f co fl dn done : Int) (mo : Nat) (e : En) (a : Option Addr) (c : Nat) (ho : mo ≤ s.op) :
    Spec Try.prog 52 [.pointer (some ⟨cb, 0, none⟩), .agg (mgC ⟨4, s.view, f, mo, co, fl, dn, e⟩ a c).toArray, .int .u64 done] [CoreAt cb s]
    (fun r L => r = .tuple #[.agg (mgC ⟨5, s.view, s.me, s.op, 0, 0, done, e0⟩ none 0).toArray, .bool false, .int .i64 0] ∧ L = [CoreAt cb (learnR s co fl)]) := by
  have hs2 := hs
  obtain ⟨h1, h7, hme, hv, hbase, hlen, hcmd⟩ := hs
  obtain ⟨me, n, v, base, es, co0, fl0, ha, dn0⟩ := s
  unfold Cs.op at ho ⊢
  simp only at h1 h7 hme hv hbase hlen hcmd hp ho ⊢
  have hrt := Lib.hid fun (lb : Nat) => right_ok cb lb me n v (.int .u64 co0 :: .int .u64 fl0 :: (ha.map iv ++ dn0.map iv)) h1 h7 hv false (by simp [hp]) 4 f mo co fl dn e a c
  have hle := Lib.hid (learns_spec cb ⟨me, n, v, base, es, co0, fl0, ha, dn0⟩ hs2 ⟨4, v, f, mo, co, fl, dn, e⟩ a c done)
  have hop := Lib.hid fun (lb : Nat) => lgOpA_spec lb base es hbase (by omega)
  unfold Cs.op at hle
  obtain ⟨op, hope⟩ : ∃ op : Nat, op = base + es.length := ⟨_, rfl⟩
  rw [← hope] at hle hop ho ⊢
  have hopb : op ≤ 1099511627900 := by omega
  unfold mgC at hrt hle ⊢
  unfold e0 at hle ⊢
  clear hcmd hs2 hp hope
  simp only at hrt hle ⊢
  refine SL.Spec.of_TK Go.Proofs.Try.func52 rfl rfl SL.call52 rfl ?_
  refine SL.TK.openCo (by first | ((repeat (first | exact SL.Pick.head | apply SL.Pick.tail)); done) | fail) (fun lb hl dl => ?_)
  simp only at hl dl ⊢
  have hfin := Lib.hid (co_shut (cb := cb) (lb := lb) (s := ⟨me, n, v, base, es, co0, fl0, ha, dn0⟩) hl dl)
  clear hl dl
  repeat' (first | (refine SL.TO.is ?_; first | (refine SL.W.quick ?_; first | refine SL.W.pass ?_ | refine SL.W.pv ?_ | refine SL.W.pv0 ?_) | (refine SL.TO.door (o := ⟨_, .call _, _, _, _, _⟩) ?_; first | (refine SL.TO.door (o := ⟨_, .call ⟨.value (.func 78), _, _⟩, _, _, _, _⟩) ?_; first | (refine SL.W.call (hrt.out _) ?_; rintro _ _ ⟨rfl, rfl⟩; try simp only [List.cons_append, List.nil_append])) | (refine SL.TO.door (o := ⟨_, .call ⟨.value (.func 71), _, _⟩, _, _, _, _⟩) ?_; first | refine SL.W.callQ (hop.out _) ?_) | (refine SL.TO.door (o := ⟨_, .call ⟨.value (.func 79), _, _⟩, _, _, _, _⟩) ?_; first | (refine SL.W.call (hle.out) ?_; rintro _ _ ⟨rfl, rfl⟩; try simp only [List.cons_append, List.nil_append]))) | refine SL.TO.nil ?_ | (refine SL.TO.nilD ?_; simp only [SL.setB]) | refine SL.W.pass ?_ | refine SL.W.pass0 ?_ | (refine SL.W.pure ?_; first | refine SL.W.pv ?_ | refine SL.W.pv0 ?_) | (refine SL.W.loud ?_; first | refine SL.W.load ?_ | refine SL.W.loadA ?_ | refine SL.W.store ?_ | refine SL.W.storeA ?_ | (refine SL.W.box ?_; intro b) | (refine SL.W.alloc ?_; intro b) | (refine SL.W.buildSlice ?_; intro b) | (refine SL.W.append ?_; intro a cap) | refine SL.W.bytesToStr ?_ | refine SL.W.pvn (SL.PV.toIntC (by rfl) (by first | exact SL.wrap_i64 (by omega) | exact SL.wrap_u8 (by omega) | exact SL.wrap_u32 (by omega) | exact SL.wrap_u64 (by omega) | rfl)) ?_ | (refine SL.W.makeSlice ?_; intro b)) | (refine SL.W.guardP (fun h => ?_) (fun h => ?_) <;> (fail_if_success (have : h = trivial := rfl)) <;> (fail_if_success (have : h = not_false := rfl)) <;> first | contradiction | (exfalso; omega) | (exfalso; revert h; simp; done) | skip) | (refine SL.W.guardB (fun h => ?_) (fun h => ?_) <;> (fail_if_success (have : h = (rfl : true = true) := rfl)) <;> (fail_if_success (have : h = (rfl : false = false) := rfl)))) | (refine SL.TK.is ?_; first | (refine SL.TK.atR (id := 10) ?_; refine SL.TK.entD (EntD.frm (pre := [SL.blk cb 127 (.int .i64 me :: .int .i64 n :: .int .u64 v :: .pointer (some ⟨lb, 0, none⟩) :: .int .u64 co0 :: .int .u64 fl0 :: (ha.map iv ++ dn0.map iv)), LogAt lb base es]) (by first | ((repeat (first | exact SL.Frm.nil | exact SL.Frm.refl | (apply SL.Frm.cons; repeat (first | exact SL.Pick.head | apply SL.Pick.tail)))); done) | fail) hfin.out EntD.refl) ?_) | refine SL.TK.seq ?_ | refine SL.TK.region ?_ | refine SL.TK.regionD SL.mixed (by simp only [SL.falses] <;> rfl) ?_ | refine SL.TK.block ?_ | refine SL.TK.inBlock ?_ | refine SL.TK.skip ?_ | refine SL.TK.scope ?_ | refine SL.TK.inScope ?_ | refine SL.TK.label ?_ | (refine SL.TK.isExit ?_; refine SL.W.exit ?_) | refine SL.W.condT ?_ | refine SL.W.condF ?_ | (refine SL.W.condP (fun h => ?_) (fun h => ?_) <;> (fail_if_success (have : h = trivial := rfl)) <;> (fail_if_success (have : h = not_false := rfl)) <;> first | contradiction | (exfalso; omega) | (exfalso; revert h; simp; done) | skip) | refine SL.W.condB (fun h => ?_) (fun h => ?_)) | (refine SL.TD.is ?_; first | (refine SL.W.dfin ?_; simp only [List.append_nil, List.cons_append, List.nil_append]) | refine SL.W.dpass ?_ | refine SL.W.dpure ?_ | refine SL.W.dload ?_ | refine SL.W.dloadA ?_ | refine SL.W.dfrz ?_ | (refine SL.W.dthaw ?_; simp only [List.append_nil, List.cons_append, List.nil_append]) | (refine SL.W.dguardP (fun h => ?_) (fun h => ?_) <;> (fail_if_success (have : h = trivial := rfl)) <;> (fail_if_success (have : h = not_false := rfl)) <;> first | contradiction | (exfalso; omega) | (exfalso; revert h; simp; done) | skip) | (refine SL.W.dguardB (fun h => ?_) (fun h => ?_) <;> (fail_if_success (have : h = (rfl : true = true) := rfl)) <;> (fail_if_success (have : h = (rfl : false = false) := rfl))) | refine SL.W.done ?_ | refine SL.W.dtwo ?_ ?_ | refine SL.W.dthree ?_ ?_ ?_))
  all_goals exact SL.TK.retD Try.func52 (SL.Res.cellATT (sz := 20) (vs := mgC ⟨5, v, me, op, 0, 0, done, e0⟩ none 0) rfl (by rfl) (by rfl) (by rfl) (by first | ((repeat (first | exact SL.Pick.head | apply SL.Pick.tail)); done) | fail) (cut_self rfl)) ⟨rfl, rfl⟩ (EntD.cons (by first | ((repeat (first | exact SL.Pick.head | apply SL.Pick.tail)); done) | fail) EntD.nil)
/-- one in between is lacking -/
theorem prep_far (cb : Nat) (s : Cs) (hs : CsOk s) (hp : ¬ s.view % s.n = s.me) (f co fl dn done : Int) (mo : Nat) (e : En) (a : Option Addr) (c : Nat) (ho : s.op + 1 < mo) (hmo : mo < 18446744073709551616) :
    Spec Try.prog 52 [.pointer (some ⟨cb, 0, none⟩), .agg (mgC ⟨4, s.view, f, mo, co, fl, dn, e⟩ a c).toArray, .int .u64 done] [CoreAt cb s]
    (fun r L => r = .tuple #[.agg (mgC mg0 none 0).toArray, .bool true, .int .i64 0] ∧ L = [CoreAt cb s]) := by
  obtain ⟨h1, h7, hme, hv, hbase, hlen, hcmd⟩ := hs
  obtain ⟨me, n, v, base, es, co0, fl0, ha, dn0⟩ := s
  unfold Cs.op at ho
  simp only at h1 h7 hme hv hbase hlen hcmd hp ho ⊢
  have hrt := Lib.hid fun (lb : Nat) => right_ok cb lb me n v (.int .u64 co0 :: .int .u64 fl0 :: (ha.map iv ++ dn0.map iv)) h1 h7 hv false (by simp [hp]) 4 f mo co fl dn e a c
  have hop := Lib.hid fun (lb : Nat) => lgOpA_spec lb base es hbase (by omega)
  obtain ⟨op, hope⟩ : ∃ op : Nat, op = base + es.length := ⟨_, rfl⟩
  rw [← hope] at hop ho
  have hopb : op ≤ 1099511627900 := by omega
  unfold mgC mg0 e0
  unfold mgC at hrt
  clear hcmd hp hope
  simp only at hrt ⊢
  refine SL.Spec.of_TK Go.Proofs.Try.func52 rfl rfl SL.call52 rfl ?_
  refine SL.TK.openCo (by first | ((repeat (first | exact SL.Pick.head | apply SL.Pick.tail)); done) | fail) (fun lb hl dl => ?_)
  simp only at hl dl ⊢
  have hfin := Lib.hid (co_shut (cb := cb) (lb := lb) (s := ⟨me, n, v, base, es, co0, fl0, ha, dn0⟩) hl dl)
  clear hl dl
  repeat' (first | (refine SL.TO.is ?_; first | (refine SL.W.quick ?_; first | refine SL.W.pass ?_ | refine SL.W.pv ?_ | refine SL.W.pv0 ?_) | (refine SL.TO.door (o := ⟨_, .call _, _, _, _, _⟩) ?_; first | (refine SL.TO.door (o := ⟨_, .call ⟨.value (.func 78), _, _⟩, _, _, _, _⟩) ?_; first | (refine SL.W.call (hrt.out _) ?_; rintro _ _ ⟨rfl, rfl⟩; try simp only [List.cons_append, List.nil_append])) | (refine SL.TO.door (o := ⟨_, .call ⟨.value (.func 71), _, _⟩, _, _, _, _⟩) ?_; first | refine SL.W.callQ (hop.out _) ?_)) | refine SL.TO.nil ?_ | (refine SL.TO.nilD ?_; simp only [SL.setB]) | refine SL.W.pass ?_ | refine SL.W.pass0 ?_ | (refine SL.W.pure ?_; first | refine SL.W.pv ?_ | refine SL.W.pv0 ?_) | (refine SL.W.loud ?_; first | refine SL.W.load ?_ | refine SL.W.loadA ?_ | refine SL.W.store ?_ | refine SL.W.storeA ?_ | (refine SL.W.box ?_; intro b) | (refine SL.W.alloc ?_; intro b) | (refine SL.W.buildSlice ?_; intro b) | (refine SL.W.append ?_; intro a cap) | refine SL.W.bytesToStr ?_ | refine SL.W.pvn (SL.PV.toIntC (by rfl) (by first | exact SL.wrap_i64 (by omega) | exact SL.wrap_u8 (by omega) | exact SL.wrap_u32 (by omega) | exact SL.wrap_u64 (by omega) | rfl)) ?_ | (refine SL.W.makeSlice ?_; intro b)) | (refine SL.W.guardP (fun h => ?_) (fun h => ?_) <;> (fail_if_success (have : h = trivial := rfl)) <;> (fail_if_success (have : h = not_false := rfl)) <;> first | contradiction | (exfalso; omega) | (exfalso; revert h; simp; done) | skip) | (refine SL.W.guardB (fun h => ?_) (fun h => ?_) <;> (fail_if_success (have : h = (rfl : true = true) := rfl)) <;> (fail_if_success (have : h = (rfl : false = false) := rfl)))) | (refine SL.TK.is ?_; first | refine SL.TK.seq ?_ | refine SL.TK.region ?_ | refine SL.TK.regionD SL.mixed (by simp only [SL.falses] <;> rfl) ?_ | refine SL.TK.block ?_ | refine SL.TK.inBlock ?_ | refine SL.TK.skip ?_ | refine SL.TK.scope ?_ | refine SL.TK.inScope ?_ | refine SL.TK.label ?_ | (refine SL.TK.isExit ?_; refine SL.W.exit ?_) | refine SL.W.condT ?_ | refine SL.W.condF ?_ | (refine SL.W.condP (fun h => ?_) (fun h => ?_) <;> (fail_if_success (have : h = trivial := rfl)) <;> (fail_if_success (have : h = not_false := rfl)) <;> first | contradiction | (exfalso; omega) | (exfalso; revert h; simp; done) | skip) | refine SL.W.condB (fun h => ?_) (fun h => ?_)) | (refine SL.TD.is ?_; first | (refine SL.W.dfin ?_; simp only [List.append_nil, List.cons_append, List.nil_append]) | refine SL.W.dpass ?_ | refine SL.W.dpure ?_ | refine SL.W.dload ?_ | refine SL.W.dloadA ?_ | refine SL.W.dfrz ?_ | (refine SL.W.dthaw ?_; simp only [List.append_nil, List.cons_append, List.nil_append]) | (refine SL.W.dguardP (fun h => ?_) (fun h => ?_) <;> (fail_if_success (have : h = trivial := rfl)) <;> (fail_if_success (have : h = not_false := rfl)) <;> first | contradiction | (exfalso; omega) | (exfalso; revert h; simp; done) | skip) | (refine SL.W.dguardB (fun h => ?_) (fun h => ?_) <;> (fail_if_success (have : h = (rfl : true = true) := rfl)) <;> (fail_if_success (have : h = (rfl : false = false) := rfl))) | refine SL.W.done ?_ | refine SL.W.dtwo ?_ ?_ | refine SL.W.dthree ?_ ?_ ?_))
  all_goals exact SL.TK.retD Try.func52 (SL.Res.cellATT (sz := 20) (vs := mgC mg0 none 0) rfl (by rfl) (by rfl) (by rfl) (by first | ((repeat (first | exact SL.Pick.head | apply SL.Pick.tail)); done) | fail) (cut_self rfl)) ⟨rfl, rfl⟩ (EntD.frm (pre := [SL.blk cb 127 (.int .i64 me :: .int .i64 n :: .int .u64 v :: .pointer (some ⟨lb, 0, none⟩) :: .int .u64 co0 :: .int .u64 fl0 :: (ha.map iv ++ dn0.map iv)), LogAt lb base es]) (by first | ((repeat (first | exact SL.Frm.nil | exact SL.Frm.refl | (apply SL.Frm.cons; repeat (first | exact SL.Pick.head | apply SL.Pick.tail)))); done) | fail) hfin.out EntD.nil)
end SL
