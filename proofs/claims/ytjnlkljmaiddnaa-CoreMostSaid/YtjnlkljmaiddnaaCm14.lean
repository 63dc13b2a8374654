/-
  A group with one more row that may be read; the law's primary, the group opened.
-/
import Derived.Test.YtjnlkljmaiddnaaCm13
set_option linter.unusedVariables false
set_option linter.unusedSimpArgs false
set_option maxRecDepth 10000

namespace SL
open Go Go.Proofs Go.RowKit
/-- a group; the bytes from a on may be read -/
def GroupX (gb : Nat) (l : List (Nat × Cs)) (bag : List (Nat × Mg)) (a : Option Addr) (cmd : List UInt8) : HProp := SL.ex fun p : (Nat × Nat × Nat × List Value) × (Option Addr × Nat × Nat) × Hp × List Value =>
  seps [SL.fact ((p.1.2.2.1 = l.length ∧ Bg p.2.2.1 bag p.2.2.2 ∧ p.2.1.2.1 = bag.length) ∧ RdG p.2.2.1 a (cmd.map byteV)), SL.blk gb 77 [.slice (some ⟨p.1.1, 0, none⟩) p.1.2.2.1 p.1.2.1, .slice p.2.1.1 p.2.1.2.1 p.2.1.2.2], SL.blk p.1.1 87 (l.map ptrV ++ p.1.2.2.2), CosAt l, ownO 85 21 p.2.1.1 p.2.1.2.1 p.2.1.2.2 p.2.2.2, RO p.2.2.1]
theorem gx_shut {gb lp lc N m bc : Nat} {ba a : Option Addr} {ex bs : List Value} {g : Hp} {l : List (Nat × Cs)} {bag : List (Nat × Mg)} {cmd : List UInt8} (hN : N = l.length) (hb : Bg g bag bs) (hm : m = bag.length) (hr : RdG g a (cmd.map byteV)) :
    ∀ h, seps [SL.blk gb 77 [.slice (some ⟨lp, 0, none⟩) N lc, .slice ba m bc], SL.blk lp 87 (l.map ptrV ++ ex), CosAt l, ownO 85 21 ba m bc bs, RO g] h → GroupX gb l bag a cmd h :=
  fun h x => ⟨((lp, lc, N, ex), (ba, m, bc), g, bs), sep_fact.2 ⟨⟨⟨hN, hb, hm⟩, hr⟩, x⟩⟩
section
variable {P : Program} {fid : Fm} {n : Nat} {post : Post} {k : List Item} {ρ : Env} {L r : List HProp}
theorem TK.openGx {gb : Nat} {l : List (Nat × Cs)} {bag : List (Nat × Mg)} {a : Option Addr} {cmd : List UInt8} (hp : Pick L (GroupX gb l bag a cmd) r) (h : ∀ (lp lc N m bc : Nat) (ba : Option Addr) (ex bs : List Value) (g : Hp), N = l.length → Bg g bag bs → m = bag.length → RdG g a (cmd.map byteV) →
    TK P fid n post k ρ (SL.blk gb 77 [.slice (some ⟨lp, 0, none⟩) N lc, .slice ba m bc] :: SL.blk lp 87 (l.map ptrV ++ ex) :: CosAt l :: ownO 85 21 ba m bc bs :: RO g :: r)) : TK P fid n post k ρ L :=
  TK.exC hp fun p => TK.sepsC Pick.head (TK.fact Pick.head fun hv => h p.1.1 p.1.2.1 p.1.2.2.1 p.2.1.2.1 p.2.1.2.2 p.2.1.1 p.1.2.2.2 p.2.2.2 p.2.2.1 hv.1.1 hv.1.2.1 hv.1.2.2 hv.2)
end
attribute [local irreducible] SL.TK SL.TO SL.TD SL.PV SL.Pick SL.Frm SL.Ent SL.Sub SL.EvAll SL.seps SL.sep SL.Cut SL.PutAt SL.blk SL.EvP SL.Fill SL.Src SL.EntD SL.own SL.ex SL.fact SL.orig
theorem prim_open (gb N v lp lc : Nat) (ps : Nat → Nat) (f : Nat → Cs) (ex : List Value) (h1 : 1 ≤ N) (h7 : N ≤ 7) (hv : (f 0).view = v) (s2 : Value) :
    Spec Try.prog 44 [.pointer (some ⟨gb, 0, none⟩)] [SL.blk gb 77 [.slice (some ⟨lp, 0, none⟩) N lc, s2], SL.blk lp 87 ((lsF N ps f).map ptrV ++ ex), CosAt (lsF N ps f)]
    (fun r L => r = .int .i64 ((v % N : Nat) : Int) ∧ L = [SL.blk gb 77 [.slice (some ⟨lp, 0, none⟩) N lc, s2], SL.blk lp 87 ((lsF N ps f).map ptrV ++ ex), CosAt (lsF N ps f)]) := by
  have hvw := coView_spec (ps 0) (f 0)
  rw [hv] at hvw
  have hvw := Lib.hid hvw
  obtain ⟨q, hq⟩ : ∃ q, q = v % N := ⟨_, rfl⟩
  have hq7 : q < N := by rw [hq]; exact Nat.mod_lt _ (by omega)
  have e16 : Value.int .u64 ((v : Int) % (N : Int)) = .int .u64 (q : Int) := by rw [hq]; simp
  rw [← hq]
  clear hq hv
  refine SL.Spec.of_TK Go.Proofs.Try.func44 rfl rfl SL.call44 rfl ?_
  have hn0 := ptrs_get (ps := ps) (f := f) (ex := ex) (i := 0) (n := N) (by omega)
  obtain ⟨pl, hpl⟩ : ∃ pl, pl = (lsF N ps f).map ptrV ++ ex := ⟨_, rfl⟩
  rw [← hpl] at hn0 ⊢
  refine SL.TK.entD (cosF_open (n := N) (i := 0) (by omega) (by first | ((repeat (first | exact SL.Pick.head | apply SL.Pick.tail)); done) | fail)) ?_
  clear hpl
  repeat' (first | (refine SL.TO.is ?_; first | (refine SL.W.quick ?_; first | refine SL.W.pass ?_ | refine SL.W.pv ?_ | refine SL.W.pv0 ?_) | (refine SL.TO.door (o := ⟨_, .call _, _, _, _, _⟩) ?_; first | (refine SL.TO.door (o := ⟨_, .call ⟨.value (.func 58), _, _⟩, _, _, _, _⟩) ?_; first | refine SL.W.callQ hvw.out ?_)) | refine SL.TO.nil ?_ | (refine SL.TO.nilD ?_; simp only [SL.setB]) | refine SL.W.pass ?_ | refine SL.W.pass0 ?_ | (refine SL.W.pure ?_; first | refine SL.W.pv ?_ | refine SL.W.pv0 ?_) | (refine SL.W.loud ?_; first | refine SL.W.load ?_ | refine SL.W.loadA ?_ | refine SL.W.store ?_ | refine SL.W.storeA ?_ | (refine SL.W.box ?_; intro b) | (refine SL.W.alloc ?_; intro b) | (refine SL.W.buildSlice ?_; intro b) | (refine SL.W.append ?_; intro a cap) | refine SL.W.bytesToStr ?_ | refine SL.W.pvn (SL.PV.toIntC (by rfl) (by first | exact SL.wrap_i64 (by omega) | exact SL.wrap_u8 (by omega) | exact SL.wrap_u32 (by omega) | exact SL.wrap_u64 (by omega) | rfl)) ?_ | (refine SL.W.makeSlice ?_; intro b)) | (refine SL.W.guardP (fun h => ?_) (fun h => ?_) <;> (fail_if_success (have : h = trivial := rfl)) <;> (fail_if_success (have : h = not_false := rfl)) <;> first | contradiction | (exfalso; omega) | (exfalso; revert h; simp; done) | skip) | (refine SL.W.guardB (fun h => ?_) (fun h => ?_) <;> (fail_if_success (have : h = (rfl : true = true) := rfl)) <;> (fail_if_success (have : h = (rfl : false = false) := rfl)))) | (refine SL.TK.is ?_; first | refine SL.TK.seq ?_ | refine SL.TK.region ?_ | refine SL.TK.regionD SL.mixed (by simp only [SL.falses] <;> rfl) ?_ | refine SL.TK.block ?_ | refine SL.TK.inBlock ?_ | refine SL.TK.skip ?_ | refine SL.TK.scope ?_ | refine SL.TK.inScope ?_ | refine SL.TK.label ?_ | (refine SL.TK.isExit ?_; refine SL.W.exit ?_) | refine SL.W.condT ?_ | refine SL.W.condF ?_ | (refine SL.W.condP (fun h => ?_) (fun h => ?_) <;> (fail_if_success (have : h = trivial := rfl)) <;> (fail_if_success (have : h = not_false := rfl)) <;> first | contradiction | (exfalso; omega) | (exfalso; revert h; simp; done) | skip) | refine SL.W.condB (fun h => ?_) (fun h => ?_)) | (refine SL.TD.is ?_; first | refine SL.W.dpure (hv := SL.PV.indexAddr (len := N) (i' := 0) (by rfl) (by rfl) rfl h1 rfl) ?_ | refine SL.W.dloadN hn0 ?_ | refine SL.TD.slot (d := 16) (by rfl) e16 ?_ | (refine SL.W.dfin ?_; simp only [List.append_nil, List.cons_append, List.nil_append]) | refine SL.W.dpass ?_ | refine SL.W.dpure ?_ | refine SL.W.dload ?_ | refine SL.W.dloadA ?_ | refine SL.W.dfrz ?_ | (refine SL.W.dthaw ?_; simp only [List.append_nil, List.cons_append, List.nil_append]) | (refine SL.W.dguardP (fun h => ?_) (fun h => ?_) <;> (fail_if_success (have : h = trivial := rfl)) <;> (fail_if_success (have : h = not_false := rfl)) <;> first | contradiction | (exfalso; omega) | (exfalso; revert h; simp; done) | skip) | (refine SL.W.dguardB (fun h => ?_) (fun h => ?_) <;> (fail_if_success (have : h = (rfl : true = true) := rfl)) <;> (fail_if_success (have : h = (rfl : false = false) := rfl))) | refine SL.W.done ?_ | refine SL.W.dtwo ?_ ?_ | refine SL.W.dthree ?_ ?_ ?_))
  all_goals
    refine SL.TK.entD (EntD.frm (pre := [CoreAt (ps 0) (f 0), CosX 0 (lsF N ps f)]) (by first | ((repeat (first | exact SL.Frm.nil | exact SL.Frm.refl | (apply SL.Frm.cons; repeat (first | exact SL.Pick.head | apply SL.Pick.tail)))); done) | fail) (cosF_back (n := N) (i := 0) (by omega)) EntD.refl) ?_
    exact SL.TK.retD Try.func44 (SL.Res.one rfl (by rfl)) ⟨rfl, rfl⟩ (EntD.cons (by first | ((repeat (first | exact SL.Pick.head | apply SL.Pick.tail)); done) | fail) (EntD.cons (by first | ((repeat (first | exact SL.Pick.head | apply SL.Pick.tail)); done) | fail) (EntD.cons (by first | ((repeat (first | exact SL.Pick.head | apply SL.Pick.tail)); done) | fail) EntD.nil)))
/-- one entry more -/
def addE (s : Cs) (e : En) : Cs := { s with es := s.es ++ [e] }
theorem prep_nextA {Y : HProp} (cb : Nat) (s : Cs) (hs : CsOk s) (hp : ¬ s.view % s.n = s.me) (f co fl dn done : Int) (e : En) (a : Option Addr) (c : Nat) (hY : RdB Y a e.2.2.2) (hel : e.2.2.2.length ≤ 1000000000000) (hlt : s.es.length < 64) :
    Spec Try.prog 52 [.pointer (some ⟨cb, 0, none⟩), .agg (mgC ⟨4, s.view, f, (s.op + 1 : Nat), co, fl, dn, e⟩ a c).toArray, .int .u64 done] [CoreAt cb s, Y]
    (fun r L => r = .tuple #[.agg (mgC ⟨5, s.view, s.me, (s.op + 1 : Nat), 0, 0, done, e0⟩ none 0).toArray, .bool false, .int .i64 0] ∧ L = [CoreAt cb (learnR (addE s e) co fl), Y]) :=
  prep_next cb s hs hp f co fl dn done e a c hY hel hlt
theorem prop_specA {Y : HProp} (cb : Nat) (s : Cs) (hs : CsOk s) (hp : s.view % s.n = s.me) (e : En) (a : Option Addr) (c : Nat) (hY : RdB Y a e.2.2.2) (hel : e.2.2.2.length ≤ 1000000000000) (hlt : s.es.length < 64) :
    Spec Try.prog 45 [.pointer (some ⟨cb, 0, none⟩), .agg (enC e a c).toArray] [CoreAt cb s, Y]
    (fun r L => ∃ a' c', r = .tuple #[.agg (mgC ⟨4, s.view, 0, (s.op + 1 : Nat), (goesR (addE s e)).commit, (goesR (addE s e)).floor, 0, e⟩ a' c').toArray, .int .i64 0] ∧ (a' = none → e.2.2.2 = []) ∧
      L = [CoreAt cb (goesR (addE s e)), own 5 1 a' e.2.2.2.length c' (e.2.2.2.map byteV), Y]) :=
  prop_spec cb s hs hp e a c hY hel hlt
end SL
