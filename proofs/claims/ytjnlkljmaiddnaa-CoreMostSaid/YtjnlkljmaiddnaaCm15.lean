/-
  Contracts of the law's come.
-/
import Derived.Test.YtjnlkljmaiddnaaCm14
set_option linter.unusedVariables false
set_option linter.unusedSimpArgs false
set_option maxRecDepth 10000

namespace SL
open Go Go.Proofs Go.RowKit
attribute [local irreducible] SL.TK SL.TO SL.TD SL.PV SL.Pick SL.Frm SL.Ent SL.Sub SL.EvAll SL.seps SL.sep SL.Cut SL.PutAt SL.blk SL.EvP SL.Fill SL.Src SL.EntD SL.own SL.ex SL.fact SL.orig
theorem come_heard (gb n v p t : Nat) (ps : Nat → Nat) (f : Nat → Cs) (bag : List (Nat × Mg)) (h1 : 1 ≤ n) (h7 : n ≤ 7) (hp : p = v % n) (ht : t < n) (hk : CsOk (f t)) (hn : (f t).n = n) (hv : (f t).view = v) (hme : (f t).me = t) (hv0 : (f 0).view = v) (hbag : bag.length ≤ 1000000) (hc0 : 0 ≤ (f t).commit) (hc1 : (f t).commit ≤ 1000000000000)
    (f0 mo co fl dn : Int) (e : En) (htp : ¬ t = p) (a : Option Addr) (c : Nat) :
    Spec Try.prog 39 [.pointer (some ⟨gb, 0, none⟩), .agg (.int .i64 (t : Int) :: mgC ⟨6, v, f0, mo, co, fl, dn, e⟩ a c).toArray] [GroupX gb (lsF n ps f) bag a e.2.2.2]
    (fun r L => r = .bool true ∧ L = [GroupAt gb (lsF n ps (up f t (learnR (f t) co fl))) (bag ++ [(p, (⟨5, v, t, (f t).op, 0, 0, (f t).commit / 8 * 8, e0⟩ : Mg))])]) := by
  obtain ⟨q8, hq8⟩ : ∃ q, q = (f t).commit / 8 := ⟨_, rfl⟩
  have hw1 : IntKind.u64.wrap ((f t).commit.tdiv 8) = q8 := by
    have e : (f t).commit.tdiv 8 = (f t).commit / 8 := Int.tdiv_eq_ediv_of_nonneg hc0
    rw [e, hq8]
    exact SL.wrap_u64 (by omega)
  have hw2 : IntKind.u64.wrap (q8 * 8) = q8 * 8 := SL.wrap_u64 (by omega)
  have hd8 : (f t).commit / 8 * 8 = q8 * 8 := by rw [hq8]
  have hco := coCommit_spec (ps t) (f t)
  have hkk := hk
  have hH := fun (done : Int) => heard_spec (ps t) (f t) hk (by rw [hn, hv, hme, ← hp]; omega) f0 mo co fl dn done e a c
  have hv2 : (up f t (learnR (f t) co fl) 0).view = v := by unfold up; split <;> simp_all [learnR]
  rw [hv, hme] at hH
  rw [hd8]
  obtain ⟨S, hS⟩ : ∃ S, S = learnR (f t) co fl := ⟨_, rfl⟩
  rw [← hS] at hH hv2 ⊢
  obtain ⟨op, hop⟩ : ∃ op, op = (f t).op := ⟨_, rfl⟩
  rw [← hop] at hH ⊢
  obtain ⟨cm, hcm⟩ : ∃ x, x = (f t).commit := ⟨_, rfl⟩
  rw [← hcm] at hw1 hco
  have hH := Lib.hid hH
  have hco := Lib.hid hco
  unfold mgC at hH ⊢
  unfold e0 at hH ⊢
  simp only at hH ⊢
  clear hq8 hd8 hS hop hcm hkk hk hn hv hme hc0 hc1 hv0
  refine SL.Spec.of_TK Go.Proofs.Try.func39 rfl rfl SL.call39 rfl ?_
  refine SL.TK.openGx (by first | ((repeat (first | exact SL.Pick.head | apply SL.Pick.tail)); done) | fail) (fun lp lc N M bc ba ex bs g hN hb hm hr => ?_)
  rw [lsF_len] at hN
  subst hN
  have hnt := ptrs_get (ps := ps) (f := f) (ex := ex) (i := t) (n := N) ht
  have hpr := fun (s' : Cs) (hs0 : (up f t s' 0).view = v) => prim_open gb N v lp lc ps (up f t s') ex h1 h7 hs0
  obtain ⟨pl, hpl⟩ : ∃ pl, pl = (lsF N ps f).map ptrV ++ ex := ⟨_, rfl⟩
  simp only [ptrs_up] at hpr
  have hpl2 := Lib.hid hpl
  rw [← hpl] at hnt hpr ⊢
  have hpr := Lib.hid hpr
  have hb := Lib.hid hb
  have hMl : M ≤ 1000000 := by omega
  refine SL.TK.entD (cosF_open (n := N) (i := t) ht (by first | ((repeat (first | exact SL.Pick.head | apply SL.Pick.tail)); done) | fail)) ?_
  have hprS := Lib.hid (hpr.out S hv2)
  rw [← hp] at hprS
  clear hpl hp
  repeat' (first | (refine SL.TO.is ?_; first | (refine SL.W.quick ?_; first | refine SL.W.pass ?_ | refine SL.W.pv ?_ | refine SL.W.pv0 ?_) | (refine SL.TO.door (o := ⟨_, .call _, _, _, _, _⟩) ?_; first | (refine SL.TO.door (o := ⟨_, .call ⟨.value (.func 40), _, _⟩, _, _, _, _⟩) ?_; first | refine SL.W.callQ hco.out ?_) | (refine SL.TO.door (o := ⟨_, .call ⟨.value (.func 67), _, _⟩, _, _, _, _⟩) ?_; first | (refine SL.W.call (hH.out _) ?_; rintro _ _ ⟨rfl, rfl⟩; try simp only [List.cons_append, List.nil_append])) | (refine SL.TO.door (o := ⟨_, .call ⟨.value (.func 44), _, _⟩, _, _, _, _⟩) ?_; first | refine SL.W.callQ (hprS.out _) ?_) | (refine SL.TO.door (o := ⟨_, .call ⟨.builtin .append, _, _⟩, _, _, _, _⟩) ?_; first | (refine SL.W.appendO ?_; intro oa oc))) | refine SL.TO.nil ?_ | (refine SL.TO.nilD ?_; simp only [SL.setB]) | refine SL.W.pass ?_ | refine SL.W.pass0 ?_ | (refine SL.W.pure ?_; first | refine SL.W.pv ?_ | refine SL.W.pv0 ?_) | (refine SL.W.loud ?_; first | refine SL.W.load ?_ | refine SL.W.loadA ?_ | refine SL.W.store ?_ | refine SL.W.storeA ?_ | (refine SL.W.box ?_; intro b) | (refine SL.W.alloc ?_; intro b) | (refine SL.W.buildSlice ?_; intro b) | (refine SL.W.append ?_; intro a cap) | refine SL.W.bytesToStr ?_ | refine SL.W.pvn (SL.PV.toIntC (by rfl) (by first | exact SL.wrap_i64 (by omega) | exact SL.wrap_u8 (by omega) | exact SL.wrap_u32 (by omega) | exact SL.wrap_u64 (by omega) | rfl)) ?_ | (refine SL.W.makeSlice ?_; intro b)) | (refine SL.W.guardP (fun h => ?_) (fun h => ?_) <;> (fail_if_success (have : h = trivial := rfl)) <;> (fail_if_success (have : h = not_false := rfl)) <;> first | contradiction | (exfalso; omega) | (exfalso; revert h; simp; done) | skip) | (refine SL.W.guardB (fun h => ?_) (fun h => ?_) <;> (fail_if_success (have : h = (rfl : true = true) := rfl)) <;> (fail_if_success (have : h = (rfl : false = false) := rfl)))) | (refine SL.TK.is ?_; first | (refine SL.TK.atG (id := 16) ?_; (refine SL.TK.entD (EntD.frm (q := CosAt (lsF N ps (up f t S))) (pre := [CoreAt (ps t) S, CosX t (lsF N ps f)]) (by first | ((repeat (first | exact SL.Frm.nil | exact SL.Frm.refl | (apply SL.Frm.cons; repeat (first | exact SL.Pick.head | apply SL.Pick.tail)))); done) | fail) (cosF_shut ht) EntD.refl) ?_)) | refine SL.TK.seq ?_ | refine SL.TK.region ?_ | refine SL.TK.regionD SL.mixed (by simp only [SL.falses] <;> rfl) ?_ | refine SL.TK.block ?_ | refine SL.TK.inBlock ?_ | refine SL.TK.skip ?_ | refine SL.TK.scope ?_ | refine SL.TK.inScope ?_ | refine SL.TK.label ?_ | (refine SL.TK.isExit ?_; refine SL.W.exit ?_) | refine SL.W.condT ?_ | refine SL.W.condF ?_ | (refine SL.W.condP (fun h => ?_) (fun h => ?_) <;> (fail_if_success (have : h = trivial := rfl)) <;> (fail_if_success (have : h = not_false := rfl)) <;> first | contradiction | (exfalso; omega) | (exfalso; revert h; simp; done) | skip) | refine SL.W.condB (fun h => ?_) (fun h => ?_)) | (refine SL.TD.is ?_; first | refine SL.W.dpure (hv := SL.PV.indexAddr (len := N) (i' := t) (o' := t) (by rfl) (by rfl) rfl ht (by omega)) ?_ | refine SL.W.dloadN hnt ?_ | refine SL.W.dpure (hv := SL.PV.quo (by rfl) (by rfl) (by decide) hw1) ?_ | refine SL.W.dpure (hv := SL.PV.mul (by rfl) (by rfl) hw2) ?_ | (refine SL.W.dfin ?_; simp only [List.append_nil, List.cons_append, List.nil_append]) | refine SL.W.dpass ?_ | refine SL.W.dpure ?_ | refine SL.W.dload ?_ | refine SL.W.dloadA ?_ | refine SL.W.dfrz ?_ | (refine SL.W.dthaw ?_; simp only [List.append_nil, List.cons_append, List.nil_append]) | (refine SL.W.dguardP (fun h => ?_) (fun h => ?_) <;> (fail_if_success (have : h = trivial := rfl)) <;> (fail_if_success (have : h = not_false := rfl)) <;> first | contradiction | (exfalso; omega) | (exfalso; revert h; simp; done) | skip) | (refine SL.W.dguardB (fun h => ?_) (fun h => ?_) <;> (fail_if_success (have : h = (rfl : true = true) := rfl)) <;> (fail_if_success (have : h = (rfl : false = false) := rfl))) | refine SL.W.done ?_ | refine SL.W.dtwo ?_ ?_ | refine SL.W.dthree ?_ ?_ ?_))
  all_goals
    rw [hpl2.out, ← ptrs_up (i := t) (s := S)]
    exact SL.TK.retD Try.func39 (SL.Res.one rfl (by rfl)) ⟨rfl, rfl⟩ (EntD.frm (pre := [SL.blk gb 77 [.slice (some ⟨lp, 0, none⟩) N lc, .slice oa (M + 1 : Nat) oc], SL.blk lp 87 ((lsF N ps (up f t S)).map ptrV ++ ex), CosAt (lsF N ps (up f t S)), ownO 85 21 oa (M + 1) oc (bs ++ (.int .i64 (p : Int) :: mgC ⟨5, v, t, op, 0, 0, q8 * 8, e0⟩ none 0)), RO g]) (by first | ((repeat (first | exact SL.Frm.nil | exact SL.Frm.refl | (apply SL.Frm.cons; repeat (first | exact SL.Pick.head | apply SL.Pick.tail)))); done) | fail) (gr_shut (by rw [lsF_len]) (hb.out.snoc (c := 0) (a := none) (m := (p, ⟨5, v, t, op, 0, 0, q8 * 8, e0⟩)) RdG.none) (by simp; omega)) EntD.nil)
theorem come_next (gb n v p t : Nat) (ps : Nat → Nat) (f : Nat → Cs) (bag : List (Nat × Mg)) (h1 : 1 ≤ n) (h7 : n ≤ 7) (hp : p = v % n) (ht : t < n) (hk : CsOk (f t)) (hn : (f t).n = n) (hv : (f t).view = v) (hme : (f t).me = t) (hv0 : (f 0).view = v) (hbag : bag.length ≤ 1000000) (hc0 : 0 ≤ (f t).commit) (hc1 : (f t).commit ≤ 1000000000000)
    (f0 co fl dn : Int) (e : En) (htp : ¬ t = p) (hel : e.2.2.2.length ≤ 1000000000000) (hlt : (f t).es.length < 64) (a : Option Addr) (c : Nat) :
    Spec Try.prog 39 [.pointer (some ⟨gb, 0, none⟩), .agg (.int .i64 (t : Int) :: mgC ⟨4, v, f0, ((f t).op + 1 : Nat), co, fl, dn, e⟩ a c).toArray] [GroupX gb (lsF n ps f) bag a e.2.2.2]
    (fun r L => r = .bool true ∧ L = [GroupAt gb (lsF n ps (up f t (learnR (addE (f t) e) co fl))) (bag ++ [(p, (⟨5, v, t, ((f t).op + 1 : Nat), 0, 0, (f t).commit / 8 * 8, e0⟩ : Mg))])]) := by
  obtain ⟨q8, hq8⟩ : ∃ q, q = (f t).commit / 8 := ⟨_, rfl⟩
  have hw1 : IntKind.u64.wrap ((f t).commit.tdiv 8) = q8 := by
    have e : (f t).commit.tdiv 8 = (f t).commit / 8 := Int.tdiv_eq_ediv_of_nonneg hc0
    rw [e, hq8]
    exact SL.wrap_u64 (by omega)
  have hw2 : IntKind.u64.wrap (q8 * 8) = q8 * 8 := SL.wrap_u64 (by omega)
  have hd8 : (f t).commit / 8 * 8 = q8 * 8 := by rw [hq8]
  have hco := coCommit_spec (ps t) (f t)
  have hH := fun (g : Hp) (hr : RdG g a (e.2.2.2.map byteV)) (done : Int) => prep_nextA (Y := RO g) (ps t) (f t) hk (by rw [hn, hv, hme, ← hp]; omega) f0 co fl dn done e a c (RdB.ro hr) hel hlt
  have hv2 : (up f t (learnR (addE (f t) e) co fl) 0).view = v := by unfold up; split <;> simp_all [learnR, addE]
  rw [hv, hme] at hH
  rw [hd8]
  obtain ⟨S, hS⟩ : ∃ S, S = learnR (addE (f t) e) co fl := ⟨_, rfl⟩
  rw [← hS] at hH hv2 ⊢
  obtain ⟨op, hop⟩ : ∃ op, op = (f t).op := ⟨_, rfl⟩
  rw [← hop] at hH ⊢
  obtain ⟨cm, hcm⟩ : ∃ x, x = (f t).commit := ⟨_, rfl⟩
  rw [← hcm] at hw1 hco
  have hco := Lib.hid hco
  unfold mgC at hH ⊢
  unfold e0 at hH ⊢
  simp only at hH ⊢
  clear hq8 hd8 hS hop hcm hk hn hv hme hc0 hc1 hv0 hel hlt
  refine SL.Spec.of_TK Go.Proofs.Try.func39 rfl rfl SL.call39 rfl ?_
  refine SL.TK.openGx (by first | ((repeat (first | exact SL.Pick.head | apply SL.Pick.tail)); done) | fail) (fun lp lc N M bc ba ex bs g hN hb hm hr => ?_)
  rw [lsF_len] at hN
  subst hN
  have hnt := ptrs_get (ps := ps) (f := f) (ex := ex) (i := t) (n := N) ht
  have hpr := fun (s' : Cs) (hs0 : (up f t s' 0).view = v) => prim_open gb N v lp lc ps (up f t s') ex h1 h7 hs0
  obtain ⟨pl, hpl⟩ : ∃ pl, pl = (lsF N ps f).map ptrV ++ ex := ⟨_, rfl⟩
  simp only [ptrs_up] at hpr
  have hpl2 := Lib.hid hpl
  rw [← hpl] at hnt hpr ⊢
  have hpr := Lib.hid hpr
  have hb := Lib.hid hb
  have hMl : M ≤ 1000000 := by omega
  refine SL.TK.entD (cosF_open (n := N) (i := t) ht (by first | ((repeat (first | exact SL.Pick.head | apply SL.Pick.tail)); done) | fail)) ?_
  have hH := Lib.hid (hH g hr)
  have hprS := Lib.hid (hpr.out S hv2)
  rw [← hp] at hprS
  clear hpl hp
  repeat' (first | (refine SL.TO.is ?_; first | (refine SL.W.quick ?_; first | refine SL.W.pass ?_ | refine SL.W.pv ?_ | refine SL.W.pv0 ?_) | (refine SL.TO.door (o := ⟨_, .call _, _, _, _, _⟩) ?_; first | (refine SL.TO.door (o := ⟨_, .call ⟨.value (.func 40), _, _⟩, _, _, _, _⟩) ?_; first | refine SL.W.callQ hco.out ?_) | (refine SL.TO.door (o := ⟨_, .call ⟨.value (.func 52), _, _⟩, _, _, _, _⟩) ?_; first | (refine SL.W.call (hH.out _) ?_; rintro _ _ ⟨rfl, rfl⟩; try simp only [List.cons_append, List.nil_append])) | (refine SL.TO.door (o := ⟨_, .call ⟨.value (.func 44), _, _⟩, _, _, _, _⟩) ?_; first | refine SL.W.callQ (hprS.out _) ?_) | (refine SL.TO.door (o := ⟨_, .call ⟨.builtin .append, _, _⟩, _, _, _, _⟩) ?_; first | (refine SL.W.appendO ?_; intro oa oc))) | refine SL.TO.nil ?_ | (refine SL.TO.nilD ?_; simp only [SL.setB]) | refine SL.W.pass ?_ | refine SL.W.pass0 ?_ | (refine SL.W.pure ?_; first | refine SL.W.pv ?_ | refine SL.W.pv0 ?_) | (refine SL.W.loud ?_; first | refine SL.W.load ?_ | refine SL.W.loadA ?_ | refine SL.W.store ?_ | refine SL.W.storeA ?_ | (refine SL.W.box ?_; intro b) | (refine SL.W.alloc ?_; intro b) | (refine SL.W.buildSlice ?_; intro b) | (refine SL.W.append ?_; intro a cap) | refine SL.W.bytesToStr ?_ | refine SL.W.pvn (SL.PV.toIntC (by rfl) (by first | exact SL.wrap_i64 (by omega) | exact SL.wrap_u8 (by omega) | exact SL.wrap_u32 (by omega) | exact SL.wrap_u64 (by omega) | rfl)) ?_ | (refine SL.W.makeSlice ?_; intro b)) | (refine SL.W.guardP (fun h => ?_) (fun h => ?_) <;> (fail_if_success (have : h = trivial := rfl)) <;> (fail_if_success (have : h = not_false := rfl)) <;> first | contradiction | (exfalso; omega) | (exfalso; revert h; simp; done) | skip) | (refine SL.W.guardB (fun h => ?_) (fun h => ?_) <;> (fail_if_success (have : h = (rfl : true = true) := rfl)) <;> (fail_if_success (have : h = (rfl : false = false) := rfl)))) | (refine SL.TK.is ?_; first | (refine SL.TK.atG (id := 16) ?_; (refine SL.TK.entD (EntD.frm (q := CosAt (lsF N ps (up f t S))) (pre := [CoreAt (ps t) S, CosX t (lsF N ps f)]) (by first | ((repeat (first | exact SL.Frm.nil | exact SL.Frm.refl | (apply SL.Frm.cons; repeat (first | exact SL.Pick.head | apply SL.Pick.tail)))); done) | fail) (cosF_shut ht) EntD.refl) ?_)) | refine SL.TK.seq ?_ | refine SL.TK.region ?_ | refine SL.TK.regionD SL.mixed (by simp only [SL.falses] <;> rfl) ?_ | refine SL.TK.block ?_ | refine SL.TK.inBlock ?_ | refine SL.TK.skip ?_ | refine SL.TK.scope ?_ | refine SL.TK.inScope ?_ | refine SL.TK.label ?_ | (refine SL.TK.isExit ?_; refine SL.W.exit ?_) | refine SL.W.condT ?_ | refine SL.W.condF ?_ | (refine SL.W.condP (fun h => ?_) (fun h => ?_) <;> (fail_if_success (have : h = trivial := rfl)) <;> (fail_if_success (have : h = not_false := rfl)) <;> first | contradiction | (exfalso; omega) | (exfalso; revert h; simp; done) | skip) | refine SL.W.condB (fun h => ?_) (fun h => ?_)) | (refine SL.TD.is ?_; first | refine SL.W.dpure (hv := SL.PV.indexAddr (len := N) (i' := t) (o' := t) (by rfl) (by rfl) rfl ht (by omega)) ?_ | refine SL.W.dloadN hnt ?_ | refine SL.W.dpure (hv := SL.PV.quo (by rfl) (by rfl) (by decide) hw1) ?_ | refine SL.W.dpure (hv := SL.PV.mul (by rfl) (by rfl) hw2) ?_ | (refine SL.W.dfin ?_; simp only [List.append_nil, List.cons_append, List.nil_append]) | refine SL.W.dpass ?_ | refine SL.W.dpure ?_ | refine SL.W.dload ?_ | refine SL.W.dloadA ?_ | refine SL.W.dfrz ?_ | (refine SL.W.dthaw ?_; simp only [List.append_nil, List.cons_append, List.nil_append]) | (refine SL.W.dguardP (fun h => ?_) (fun h => ?_) <;> (fail_if_success (have : h = trivial := rfl)) <;> (fail_if_success (have : h = not_false := rfl)) <;> first | contradiction | (exfalso; omega) | (exfalso; revert h; simp; done) | skip) | (refine SL.W.dguardB (fun h => ?_) (fun h => ?_) <;> (fail_if_success (have : h = (rfl : true = true) := rfl)) <;> (fail_if_success (have : h = (rfl : false = false) := rfl))) | refine SL.W.done ?_ | refine SL.W.dtwo ?_ ?_ | refine SL.W.dthree ?_ ?_ ?_))
  all_goals
    rw [hpl2.out, ← ptrs_up (i := t) (s := S)]
    exact SL.TK.retD Try.func39 (SL.Res.one rfl (by rfl)) ⟨rfl, rfl⟩ (EntD.frm (pre := [SL.blk gb 77 [.slice (some ⟨lp, 0, none⟩) N lc, .slice oa (M + 1 : Nat) oc], SL.blk lp 87 ((lsF N ps (up f t S)).map ptrV ++ ex), CosAt (lsF N ps (up f t S)), ownO 85 21 oa (M + 1) oc (bs ++ (.int .i64 (p : Int) :: mgC ⟨5, v, t, (op + 1 : Nat), 0, 0, q8 * 8, e0⟩ none 0)), RO g]) (by first | ((repeat (first | exact SL.Frm.nil | exact SL.Frm.refl | (apply SL.Frm.cons; repeat (first | exact SL.Pick.head | apply SL.Pick.tail)))); done) | fail) (gr_shut (by rw [lsF_len]) (hb.out.snoc (c := 0) (a := none) (m := (p, ⟨5, v, t, (op + 1 : Nat), 0, 0, q8 * 8, e0⟩)) RdG.none) (by simp; omega)) EntD.nil)
theorem come_old (gb n v p t : Nat) (ps : Nat → Nat) (f : Nat → Cs) (bag : List (Nat × Mg)) (h1 : 1 ≤ n) (h7 : n ≤ 7) (hp : p = v % n) (ht : t < n) (hk : CsOk (f t)) (hn : (f t).n = n) (hv : (f t).view = v) (hme : (f t).me = t) (hv0 : (f 0).view = v) (hbag : bag.length ≤ 1000000) (hc0 : 0 ≤ (f t).commit) (hc1 : (f t).commit ≤ 1000000000000)
    (f0 co fl dn : Int) (mo : Nat) (e : En) (htp : ¬ t = p) (hmo : mo ≤ (f t).op) (a : Option Addr) (c : Nat) :
    Spec Try.prog 39 [.pointer (some ⟨gb, 0, none⟩), .agg (.int .i64 (t : Int) :: mgC ⟨4, v, f0, mo, co, fl, dn, e⟩ a c).toArray] [GroupX gb (lsF n ps f) bag a e.2.2.2]
    (fun r L => r = .bool true ∧ L = [GroupAt gb (lsF n ps (up f t (learnR (f t) co fl))) (bag ++ [(p, (⟨5, v, t, (f t).op, 0, 0, (f t).commit / 8 * 8, e0⟩ : Mg))])]) := by
  obtain ⟨q8, hq8⟩ : ∃ q, q = (f t).commit / 8 := ⟨_, rfl⟩
  have hw1 : IntKind.u64.wrap ((f t).commit.tdiv 8) = q8 := by
    have e : (f t).commit.tdiv 8 = (f t).commit / 8 := Int.tdiv_eq_ediv_of_nonneg hc0
    rw [e, hq8]
    exact SL.wrap_u64 (by omega)
  have hw2 : IntKind.u64.wrap (q8 * 8) = q8 * 8 := SL.wrap_u64 (by omega)
  have hd8 : (f t).commit / 8 * 8 = q8 * 8 := by rw [hq8]
  have hco := coCommit_spec (ps t) (f t)
  have hH := fun (done : Int) => prep_old (ps t) (f t) hk (by rw [hn, hv, hme, ← hp]; omega) f0 co fl dn done mo e a c hmo
  have hv2 : (up f t (learnR (f t) co fl) 0).view = v := by unfold up; split <;> simp_all [learnR]
  rw [hv, hme] at hH
  rw [hd8]
  obtain ⟨S, hS⟩ : ∃ S, S = learnR (f t) co fl := ⟨_, rfl⟩
  rw [← hS] at hH hv2 ⊢
  obtain ⟨op, hop⟩ : ∃ op, op = (f t).op := ⟨_, rfl⟩
  rw [← hop] at hH ⊢
  obtain ⟨cm, hcm⟩ : ∃ x, x = (f t).commit := ⟨_, rfl⟩
  rw [← hcm] at hw1 hco
  have hco := Lib.hid hco
  unfold mgC at hH ⊢
  unfold e0 at hH ⊢
  simp only at hH ⊢
  clear hq8 hd8 hS hop hcm hk hn hv hme hc0 hc1 hv0 hmo
  refine SL.Spec.of_TK Go.Proofs.Try.func39 rfl rfl SL.call39 rfl ?_
  refine SL.TK.openGx (by first | ((repeat (first | exact SL.Pick.head | apply SL.Pick.tail)); done) | fail) (fun lp lc N M bc ba ex bs g hN hb hm hr => ?_)
  rw [lsF_len] at hN
  subst hN
  have hnt := ptrs_get (ps := ps) (f := f) (ex := ex) (i := t) (n := N) ht
  have hpr := fun (s' : Cs) (hs0 : (up f t s' 0).view = v) => prim_open gb N v lp lc ps (up f t s') ex h1 h7 hs0
  obtain ⟨pl, hpl⟩ : ∃ pl, pl = (lsF N ps f).map ptrV ++ ex := ⟨_, rfl⟩
  simp only [ptrs_up] at hpr
  have hpl2 := Lib.hid hpl
  rw [← hpl] at hnt hpr ⊢
  have hpr := Lib.hid hpr
  have hb := Lib.hid hb
  have hMl : M ≤ 1000000 := by omega
  refine SL.TK.entD (cosF_open (n := N) (i := t) ht (by first | ((repeat (first | exact SL.Pick.head | apply SL.Pick.tail)); done) | fail)) ?_
  have hH := Lib.hid hH
  have hprS := Lib.hid (hpr.out S hv2)
  rw [← hp] at hprS
  clear hpl hp
  repeat' (first | (refine SL.TO.is ?_; first | (refine SL.W.quick ?_; first | refine SL.W.pass ?_ | refine SL.W.pv ?_ | refine SL.W.pv0 ?_) | (refine SL.TO.door (o := ⟨_, .call _, _, _, _, _⟩) ?_; first | (refine SL.TO.door (o := ⟨_, .call ⟨.value (.func 40), _, _⟩, _, _, _, _⟩) ?_; first | refine SL.W.callQ hco.out ?_) | (refine SL.TO.door (o := ⟨_, .call ⟨.value (.func 52), _, _⟩, _, _, _, _⟩) ?_; first | (refine SL.W.call (hH.out _) ?_; rintro _ _ ⟨rfl, rfl⟩; try simp only [List.cons_append, List.nil_append])) | (refine SL.TO.door (o := ⟨_, .call ⟨.value (.func 44), _, _⟩, _, _, _, _⟩) ?_; first | refine SL.W.callQ (hprS.out _) ?_) | (refine SL.TO.door (o := ⟨_, .call ⟨.builtin .append, _, _⟩, _, _, _, _⟩) ?_; first | (refine SL.W.appendO ?_; intro oa oc))) | refine SL.TO.nil ?_ | (refine SL.TO.nilD ?_; simp only [SL.setB]) | refine SL.W.pass ?_ | refine SL.W.pass0 ?_ | (refine SL.W.pure ?_; first | refine SL.W.pv ?_ | refine SL.W.pv0 ?_) | (refine SL.W.loud ?_; first | refine SL.W.load ?_ | refine SL.W.loadA ?_ | refine SL.W.store ?_ | refine SL.W.storeA ?_ | (refine SL.W.box ?_; intro b) | (refine SL.W.alloc ?_; intro b) | (refine SL.W.buildSlice ?_; intro b) | (refine SL.W.append ?_; intro a cap) | refine SL.W.bytesToStr ?_ | refine SL.W.pvn (SL.PV.toIntC (by rfl) (by first | exact SL.wrap_i64 (by omega) | exact SL.wrap_u8 (by omega) | exact SL.wrap_u32 (by omega) | exact SL.wrap_u64 (by omega) | rfl)) ?_ | (refine SL.W.makeSlice ?_; intro b)) | (refine SL.W.guardP (fun h => ?_) (fun h => ?_) <;> (fail_if_success (have : h = trivial := rfl)) <;> (fail_if_success (have : h = not_false := rfl)) <;> first | contradiction | (exfalso; omega) | (exfalso; revert h; simp; done) | skip) | (refine SL.W.guardB (fun h => ?_) (fun h => ?_) <;> (fail_if_success (have : h = (rfl : true = true) := rfl)) <;> (fail_if_success (have : h = (rfl : false = false) := rfl)))) | (refine SL.TK.is ?_; first | (refine SL.TK.atG (id := 16) ?_; (refine SL.TK.entD (EntD.frm (q := CosAt (lsF N ps (up f t S))) (pre := [CoreAt (ps t) S, CosX t (lsF N ps f)]) (by first | ((repeat (first | exact SL.Frm.nil | exact SL.Frm.refl | (apply SL.Frm.cons; repeat (first | exact SL.Pick.head | apply SL.Pick.tail)))); done) | fail) (cosF_shut ht) EntD.refl) ?_)) | refine SL.TK.seq ?_ | refine SL.TK.region ?_ | refine SL.TK.regionD SL.mixed (by simp only [SL.falses] <;> rfl) ?_ | refine SL.TK.block ?_ | refine SL.TK.inBlock ?_ | refine SL.TK.skip ?_ | refine SL.TK.scope ?_ | refine SL.TK.inScope ?_ | refine SL.TK.label ?_ | (refine SL.TK.isExit ?_; refine SL.W.exit ?_) | refine SL.W.condT ?_ | refine SL.W.condF ?_ | (refine SL.W.condP (fun h => ?_) (fun h => ?_) <;> (fail_if_success (have : h = trivial := rfl)) <;> (fail_if_success (have : h = not_false := rfl)) <;> first | contradiction | (exfalso; omega) | (exfalso; revert h; simp; done) | skip) | refine SL.W.condB (fun h => ?_) (fun h => ?_)) | (refine SL.TD.is ?_; first | refine SL.W.dpure (hv := SL.PV.indexAddr (len := N) (i' := t) (o' := t) (by rfl) (by rfl) rfl ht (by omega)) ?_ | refine SL.W.dloadN hnt ?_ | refine SL.W.dpure (hv := SL.PV.quo (by rfl) (by rfl) (by decide) hw1) ?_ | refine SL.W.dpure (hv := SL.PV.mul (by rfl) (by rfl) hw2) ?_ | (refine SL.W.dfin ?_; simp only [List.append_nil, List.cons_append, List.nil_append]) | refine SL.W.dpass ?_ | refine SL.W.dpure ?_ | refine SL.W.dload ?_ | refine SL.W.dloadA ?_ | refine SL.W.dfrz ?_ | (refine SL.W.dthaw ?_; simp only [List.append_nil, List.cons_append, List.nil_append]) | (refine SL.W.dguardP (fun h => ?_) (fun h => ?_) <;> (fail_if_success (have : h = trivial := rfl)) <;> (fail_if_success (have : h = not_false := rfl)) <;> first | contradiction | (exfalso; omega) | (exfalso; revert h; simp; done) | skip) | (refine SL.W.dguardB (fun h => ?_) (fun h => ?_) <;> (fail_if_success (have : h = (rfl : true = true) := rfl)) <;> (fail_if_success (have : h = (rfl : false = false) := rfl))) | refine SL.W.done ?_ | refine SL.W.dtwo ?_ ?_ | refine SL.W.dthree ?_ ?_ ?_))
  all_goals
    rw [hpl2.out, ← ptrs_up (i := t) (s := S)]
    exact SL.TK.retD Try.func39 (SL.Res.one rfl (by rfl)) ⟨rfl, rfl⟩ (EntD.frm (pre := [SL.blk gb 77 [.slice (some ⟨lp, 0, none⟩) N lc, .slice oa (M + 1 : Nat) oc], SL.blk lp 87 ((lsF N ps (up f t S)).map ptrV ++ ex), CosAt (lsF N ps (up f t S)), ownO 85 21 oa (M + 1) oc (bs ++ (.int .i64 (p : Int) :: mgC ⟨5, v, t, op, 0, 0, q8 * 8, e0⟩ none 0)), RO g]) (by first | ((repeat (first | exact SL.Frm.nil | exact SL.Frm.refl | (apply SL.Frm.cons; repeat (first | exact SL.Pick.head | apply SL.Pick.tail)))); done) | fail) (gr_shut (by rw [lsF_len]) (hb.out.snoc (c := 0) (a := none) (m := (p, ⟨5, v, t, op, 0, 0, q8 * 8, e0⟩)) RdG.none) (by simp; omega)) EntD.nil)
theorem come_far (gb n v p t : Nat) (ps : Nat → Nat) (f : Nat → Cs) (bag : List (Nat × Mg)) (h1 : 1 ≤ n) (h7 : n ≤ 7) (hp : p = v % n) (ht : t < n) (hk : CsOk (f t)) (hn : (f t).n = n) (hv : (f t).view = v) (hme : (f t).me = t) (hv0 : (f 0).view = v) (hbag : bag.length ≤ 1000000) (hc0 : 0 ≤ (f t).commit) (hc1 : (f t).commit ≤ 1000000000000)
    (f0 co fl dn : Int) (mo : Nat) (e : En) (htp : ¬ t = p) (hmo : (f t).op + 1 < mo) (hmo2 : mo < 18446744073709551616) (a : Option Addr) (c : Nat) :
    Spec Try.prog 39 [.pointer (some ⟨gb, 0, none⟩), .agg (.int .i64 (t : Int) :: mgC ⟨4, v, f0, mo, co, fl, dn, e⟩ a c).toArray] [GroupX gb (lsF n ps f) bag a e.2.2.2]
    (fun r L => r = .bool true ∧ L = [GroupAt gb (lsF n ps f) bag]) := by
  obtain ⟨q8, hq8⟩ : ∃ q, q = (f t).commit / 8 := ⟨_, rfl⟩
  have hw1 : IntKind.u64.wrap ((f t).commit.tdiv 8) = q8 := by
    have e : (f t).commit.tdiv 8 = (f t).commit / 8 := Int.tdiv_eq_ediv_of_nonneg hc0
    rw [e, hq8]
    exact SL.wrap_u64 (by omega)
  have hw2 : IntKind.u64.wrap (q8 * 8) = q8 * 8 := SL.wrap_u64 (by omega)
  have hd8 : (f t).commit / 8 * 8 = q8 * 8 := by rw [hq8]
  have hco := coCommit_spec (ps t) (f t)
  have hH := fun (done : Int) => prep_far (ps t) (f t) hk (by rw [hn, hv, hme, ← hp]; omega) f0 co fl dn done mo e a c hmo hmo2
  rw [hv] at hH
  obtain ⟨cm, hcm⟩ : ∃ x, x = (f t).commit := ⟨_, rfl⟩
  rw [← hcm] at hw1 hco
  have hco := Lib.hid hco
  unfold mgC at hH ⊢
  unfold mg0 at hH
  unfold e0 at hH
  simp only at hH ⊢
  clear hq8 hd8 hcm hk hn hv hme hc0 hc1 hv0 hmo
  refine SL.Spec.of_TK Go.Proofs.Try.func39 rfl rfl SL.call39 rfl ?_
  refine SL.TK.openGx (by first | ((repeat (first | exact SL.Pick.head | apply SL.Pick.tail)); done) | fail) (fun lp lc N M bc ba ex bs g hN hb hm hr => ?_)
  rw [lsF_len] at hN
  subst hN
  have hnt := ptrs_get (ps := ps) (f := f) (ex := ex) (i := t) (n := N) ht
  have hpr := fun (s' : Cs) (hs0 : (up f t s' 0).view = v) => prim_open gb N v lp lc ps (up f t s') ex h1 h7 hs0
  obtain ⟨pl, hpl⟩ : ∃ pl, pl = (lsF N ps f).map ptrV ++ ex := ⟨_, rfl⟩
  simp only [ptrs_up] at hpr
  have hpl2 := Lib.hid hpl
  rw [← hpl] at hnt hpr ⊢
  have hpr := Lib.hid hpr
  have hb := Lib.hid hb
  have hMl : M ≤ 1000000 := by omega
  refine SL.TK.entD (cosF_open (n := N) (i := t) ht (by first | ((repeat (first | exact SL.Pick.head | apply SL.Pick.tail)); done) | fail)) ?_
  have hH := Lib.hid hH
  clear hpl hp
  repeat' (first | (refine SL.TO.is ?_; first | (refine SL.W.quick ?_; first | refine SL.W.pass ?_ | refine SL.W.pv ?_ | refine SL.W.pv0 ?_) | (refine SL.TO.door (o := ⟨_, .call _, _, _, _, _⟩) ?_; first | (refine SL.TO.door (o := ⟨_, .call ⟨.value (.func 40), _, _⟩, _, _, _, _⟩) ?_; first | refine SL.W.callQ hco.out ?_) | (refine SL.TO.door (o := ⟨_, .call ⟨.value (.func 52), _, _⟩, _, _, _, _⟩) ?_; first | (refine SL.W.call (hH.out _) ?_; rintro _ _ ⟨rfl, rfl⟩; try simp only [List.cons_append, List.nil_append]))) | refine SL.TO.nil ?_ | (refine SL.TO.nilD ?_; simp only [SL.setB]) | refine SL.W.pass ?_ | refine SL.W.pass0 ?_ | (refine SL.W.pure ?_; first | refine SL.W.pv ?_ | refine SL.W.pv0 ?_) | (refine SL.W.loud ?_; first | refine SL.W.load ?_ | refine SL.W.loadA ?_ | refine SL.W.store ?_ | refine SL.W.storeA ?_ | (refine SL.W.box ?_; intro b) | (refine SL.W.alloc ?_; intro b) | (refine SL.W.buildSlice ?_; intro b) | (refine SL.W.append ?_; intro a cap) | refine SL.W.bytesToStr ?_ | refine SL.W.pvn (SL.PV.toIntC (by rfl) (by first | exact SL.wrap_i64 (by omega) | exact SL.wrap_u8 (by omega) | exact SL.wrap_u32 (by omega) | exact SL.wrap_u64 (by omega) | rfl)) ?_ | (refine SL.W.makeSlice ?_; intro b)) | (refine SL.W.guardP (fun h => ?_) (fun h => ?_) <;> (fail_if_success (have : h = trivial := rfl)) <;> (fail_if_success (have : h = not_false := rfl)) <;> first | contradiction | (exfalso; omega) | (exfalso; revert h; simp; done) | skip) | (refine SL.W.guardB (fun h => ?_) (fun h => ?_) <;> (fail_if_success (have : h = (rfl : true = true) := rfl)) <;> (fail_if_success (have : h = (rfl : false = false) := rfl)))) | (refine SL.TK.is ?_; first | refine SL.TK.seq ?_ | refine SL.TK.region ?_ | refine SL.TK.regionD SL.mixed (by simp only [SL.falses] <;> rfl) ?_ | refine SL.TK.block ?_ | refine SL.TK.inBlock ?_ | refine SL.TK.skip ?_ | refine SL.TK.scope ?_ | refine SL.TK.inScope ?_ | refine SL.TK.label ?_ | (refine SL.TK.isExit ?_; refine SL.W.exit ?_) | refine SL.W.condT ?_ | refine SL.W.condF ?_ | (refine SL.W.condP (fun h => ?_) (fun h => ?_) <;> (fail_if_success (have : h = trivial := rfl)) <;> (fail_if_success (have : h = not_false := rfl)) <;> first | contradiction | (exfalso; omega) | (exfalso; revert h; simp; done) | skip) | refine SL.W.condB (fun h => ?_) (fun h => ?_)) | (refine SL.TD.is ?_; first | refine SL.W.dpure (hv := SL.PV.indexAddr (len := N) (i' := t) (o' := t) (by rfl) (by rfl) rfl ht (by omega)) ?_ | refine SL.W.dloadN hnt ?_ | refine SL.W.dpure (hv := SL.PV.quo (by rfl) (by rfl) (by decide) hw1) ?_ | refine SL.W.dpure (hv := SL.PV.mul (by rfl) (by rfl) hw2) ?_ | (refine SL.W.dfin ?_; simp only [List.append_nil, List.cons_append, List.nil_append]) | refine SL.W.dpass ?_ | refine SL.W.dpure ?_ | refine SL.W.dload ?_ | refine SL.W.dloadA ?_ | refine SL.W.dfrz ?_ | (refine SL.W.dthaw ?_; simp only [List.append_nil, List.cons_append, List.nil_append]) | (refine SL.W.dguardP (fun h => ?_) (fun h => ?_) <;> (fail_if_success (have : h = trivial := rfl)) <;> (fail_if_success (have : h = not_false := rfl)) <;> first | contradiction | (exfalso; omega) | (exfalso; revert h; simp; done) | skip) | (refine SL.W.dguardB (fun h => ?_) (fun h => ?_) <;> (fail_if_success (have : h = (rfl : true = true) := rfl)) <;> (fail_if_success (have : h = (rfl : false = false) := rfl))) | refine SL.W.done ?_ | refine SL.W.dtwo ?_ ?_ | refine SL.W.dthree ?_ ?_ ?_))
  all_goals
    refine SL.TK.entD (EntD.frm (q := CosAt (lsF N ps f)) (pre := [CoreAt (ps t) (f t), CosX t (lsF N ps f)]) (by first | ((repeat (first | exact SL.Frm.nil | exact SL.Frm.refl | (apply SL.Frm.cons; repeat (first | exact SL.Pick.head | apply SL.Pick.tail)))); done) | fail) (cosF_back ht) EntD.refl) ?_
    rw [hpl2.out]
    exact SL.TK.retD Try.func39 (SL.Res.one rfl (by rfl)) ⟨rfl, rfl⟩ (EntD.frm (pre := [SL.blk gb 77 [.slice (some ⟨lp, 0, none⟩) N lc, .slice ba M bc], SL.blk lp 87 ((lsF N ps f).map ptrV ++ ex), CosAt (lsF N ps f), ownO 85 21 ba M bc bs, RO g]) (by first | ((repeat (first | exact SL.Frm.nil | exact SL.Frm.refl | (apply SL.Frm.cons; repeat (first | exact SL.Pick.head | apply SL.Pick.tail)))); done) | fail) (gr_shut (by rw [lsF_len]) hb.out hm) EntD.nil)
theorem come_ok (gb n v p t : Nat) (ps : Nat → Nat) (f : Nat → Cs) (bag : List (Nat × Mg)) (h1 : 1 ≤ n) (h7 : n ≤ 7) (hp : p = v % n) (ht : t < n) (hk : CsOk (f t)) (hn : (f t).n = n) (hv : (f t).view = v) (hme : (f t).me = t) (hv0 : (f 0).view = v) (hbag : bag.length ≤ 1000000) (hc0 : 0 ≤ (f t).commit) (hc1 : (f t).commit ≤ 1000000000000)
    (b : Nat) (mo co fl dn : Int) (e : En) (htp : t = p) (hb7 : b < n) (hbt : ¬ b = t) (hmo : mo ≤ (f t).op) (a : Option Addr) (c : Nat) :
    Spec Try.prog 39 [.pointer (some ⟨gb, 0, none⟩), .agg (.int .i64 (t : Int) :: mgC ⟨5, v, b, mo, co, fl, dn, e⟩ a c).toArray] [GroupX gb (lsF n ps f) bag a e.2.2.2]
    (fun r L => r = .bool true ∧ L = [GroupAt gb (lsF n ps (up f t (goesR (okR (f t) b mo dn)))) bag]) := by
  have hH := ok_spec (ps t) (f t) hk (by rw [hn, hv, hme, ← hp]; exact htp.symm) b mo co fl dn e a c (by rw [hn]; exact hb7) (by rw [hme]; exact hbt) hmo
  rw [hv] at hH
  obtain ⟨S, hS⟩ : ∃ S, S = goesR (okR (f t) b mo dn) := ⟨_, rfl⟩
  rw [← hS] at hH ⊢
  unfold mgC at hH ⊢
  simp only at hH ⊢
  clear hS hk hn hv hme hc0 hc1 hv0 hmo
  refine SL.Spec.of_TK Go.Proofs.Try.func39 rfl rfl SL.call39 rfl ?_
  refine SL.TK.openGx (by first | ((repeat (first | exact SL.Pick.head | apply SL.Pick.tail)); done) | fail) (fun lp lc N M bc ba ex bs g hN hb hm hr => ?_)
  rw [lsF_len] at hN
  subst hN
  have hnt := ptrs_get (ps := ps) (f := f) (ex := ex) (i := t) (n := N) ht
  have hpr := fun (s' : Cs) (hs0 : (up f t s' 0).view = v) => prim_open gb N v lp lc ps (up f t s') ex h1 h7 hs0
  obtain ⟨pl, hpl⟩ : ∃ pl, pl = (lsF N ps f).map ptrV ++ ex := ⟨_, rfl⟩
  simp only [ptrs_up] at hpr
  have hpl2 := Lib.hid hpl
  rw [← hpl] at hnt hpr ⊢
  have hpr := Lib.hid hpr
  have hb := Lib.hid hb
  have hMl : M ≤ 1000000 := by omega
  refine SL.TK.entD (cosF_open (n := N) (i := t) ht (by first | ((repeat (first | exact SL.Pick.head | apply SL.Pick.tail)); done) | fail)) ?_
  have hH := Lib.hid hH
  clear hpl hp hpr
  repeat' (first | (refine SL.TO.is ?_; first | (refine SL.W.quick ?_; first | refine SL.W.pass ?_ | refine SL.W.pv ?_ | refine SL.W.pv0 ?_) | (refine SL.TO.door (o := ⟨_, .call _, _, _, _, _⟩) ?_; first | (refine SL.TO.door (o := ⟨_, .call ⟨.value (.func 57), _, _⟩, _, _, _, _⟩) ?_; first | (refine SL.W.call (hH.out) ?_; rintro _ _ ⟨rfl, rfl⟩; try simp only [List.cons_append, List.nil_append]))) | refine SL.TO.nil ?_ | (refine SL.TO.nilD ?_; simp only [SL.setB]) | refine SL.W.pass ?_ | refine SL.W.pass0 ?_ | (refine SL.W.pure ?_; first | (refine SL.TO.door (o := ⟨_, .binOp _ _ _ _ _, _, _, _, _⟩) ?_; first | (refine SL.TO.door (o := ⟨_, .binOp .eql _ _ _ _, _, _, _, _⟩) ?_; refine SL.W.pvn (SL.PV.eqIT (by rfl) (by rfl) (by omega)) ?_)) | refine SL.W.pv ?_ | refine SL.W.pv0 ?_) | (refine SL.W.loud ?_; first | refine SL.W.load ?_ | refine SL.W.loadA ?_ | refine SL.W.store ?_ | refine SL.W.storeA ?_ | (refine SL.W.box ?_; intro b) | (refine SL.W.alloc ?_; intro b) | (refine SL.W.buildSlice ?_; intro b) | (refine SL.W.append ?_; intro a cap) | refine SL.W.bytesToStr ?_ | refine SL.W.pvn (SL.PV.toIntC (by rfl) (by first | exact SL.wrap_i64 (by omega) | exact SL.wrap_u8 (by omega) | exact SL.wrap_u32 (by omega) | exact SL.wrap_u64 (by omega) | rfl)) ?_ | (refine SL.W.makeSlice ?_; intro b)) | (refine SL.W.guardP (fun h => ?_) (fun h => ?_) <;> (fail_if_success (have : h = trivial := rfl)) <;> (fail_if_success (have : h = not_false := rfl)) <;> first | contradiction | (exfalso; omega) | (exfalso; revert h; simp; done) | skip) | (refine SL.W.guardB (fun h => ?_) (fun h => ?_) <;> (fail_if_success (have : h = (rfl : true = true) := rfl)) <;> (fail_if_success (have : h = (rfl : false = false) := rfl)))) | (refine SL.TK.is ?_; first | refine SL.TK.seq ?_ | refine SL.TK.region ?_ | refine SL.TK.regionD SL.mixed (by simp only [SL.falses] <;> rfl) ?_ | refine SL.TK.block ?_ | refine SL.TK.inBlock ?_ | refine SL.TK.skip ?_ | refine SL.TK.scope ?_ | refine SL.TK.inScope ?_ | refine SL.TK.label ?_ | (refine SL.TK.isExit ?_; refine SL.W.exit ?_) | refine SL.W.condT ?_ | refine SL.W.condF ?_ | (refine SL.W.condP (fun h => ?_) (fun h => ?_) <;> (fail_if_success (have : h = trivial := rfl)) <;> (fail_if_success (have : h = not_false := rfl)) <;> first | contradiction | (exfalso; omega) | (exfalso; revert h; simp; done) | skip) | refine SL.W.condB (fun h => ?_) (fun h => ?_)) | (refine SL.TD.is ?_; first | refine SL.W.dpure (hv := SL.PV.indexAddr (len := N) (i' := t) (o' := t) (by rfl) (by rfl) rfl ht (by omega)) ?_ | refine SL.W.dloadN hnt ?_ | (refine SL.W.dfin ?_; simp only [List.append_nil, List.cons_append, List.nil_append]) | refine SL.W.dpass ?_ | refine SL.W.dpure ?_ | refine SL.W.dload ?_ | refine SL.W.dloadA ?_ | refine SL.W.dfrz ?_ | (refine SL.W.dthaw ?_; simp only [List.append_nil, List.cons_append, List.nil_append]) | (refine SL.W.dguardP (fun h => ?_) (fun h => ?_) <;> (fail_if_success (have : h = trivial := rfl)) <;> (fail_if_success (have : h = not_false := rfl)) <;> first | contradiction | (exfalso; omega) | (exfalso; revert h; simp; done) | skip) | (refine SL.W.dguardB (fun h => ?_) (fun h => ?_) <;> (fail_if_success (have : h = (rfl : true = true) := rfl)) <;> (fail_if_success (have : h = (rfl : false = false) := rfl))) | refine SL.W.done ?_ | refine SL.W.dtwo ?_ ?_ | refine SL.W.dthree ?_ ?_ ?_))
  all_goals
    refine SL.TK.entD (EntD.frm (q := CosAt (lsF N ps (up f t S))) (pre := [CoreAt (ps t) S, CosX t (lsF N ps f)]) (by first | ((repeat (first | exact SL.Frm.nil | exact SL.Frm.refl | (apply SL.Frm.cons; repeat (first | exact SL.Pick.head | apply SL.Pick.tail)))); done) | fail) (cosF_shut ht) EntD.refl) ?_
    rw [hpl2.out, ← ptrs_up (i := t) (s := S)]
    exact SL.TK.retD Try.func39 (SL.Res.one rfl (by rfl)) ⟨rfl, rfl⟩ (EntD.frm (pre := [SL.blk gb 77 [.slice (some ⟨lp, 0, none⟩) N lc, .slice ba M bc], SL.blk lp 87 ((lsF N ps (up f t S)).map ptrV ++ ex), CosAt (lsF N ps (up f t S)), ownO 85 21 ba M bc bs, RO g]) (by first | ((repeat (first | exact SL.Frm.nil | exact SL.Frm.refl | (apply SL.Frm.cons; repeat (first | exact SL.Pick.head | apply SL.Pick.tail)))); done) | fail) (gr_shut (by rw [lsF_len]) hb.out hm) EntD.nil)
end SL
