/-
  The given statement 'MarkApart': a copy lives apart.
  Conditions: none beyond those of the given statement.
-/
import Derived.Test.YtpnlenpglmffdaaMk10
import Derived.Test.YtpnlenpglmffdaaRows
set_option linter.unusedVariables false
set_option linter.unusedSimpArgs false
set_option maxRecDepth 10000
namespace SL
open Go Go.Proofs Go.RowKit Go.ChangeShapes Go.WideShapes Go.ChangeAt Go.WideElems
structure MA where
  what : Int
  cl : Int
  pos : Int
  a : Option Addr
  cap : Nat
  us : List Un
def maC (A : MA) : List Value := [.int .i64 A.what, .int .u32 A.cl, .int .i64 A.pos, .slice A.a A.us.length A.cap]
structure MAOk (W : World) (A : MA) : Prop where
  cap : A.us.length ≤ A.cap
  max : A.cap ≤ 9223372036854775807
  row : RowX (SL.orig W) A.a A.us
theorem ma_of {W : World} {cs : List Value} (h : Rdb Try.prog W 49 cs) : ∃ A : MA, cs = maC A ∧ MAOk W A := by
  obtain ⟨hl, hf⟩ := h.struct Try.underlying49
  simp only [List.mem_cons, List.not_mem_nil, or_false, forall_eq_or_imp, forall_eq] at hf
  obtain ⟨h0, h1, h2, h3⟩ := hf
  have lO : Try.prog.cellsOf 49 = 4 := by kernel_rfl
  have l3 : Try.prog.cellsOf 3 = 1 := by kernel_rfl
  have l4 : Try.prog.cellsOf 31 = 1 := by kernel_rfl
  have l5 : Try.prog.cellsOf 24 = 1 := by kernel_rfl
  rw [lO] at hl
  match cs, hl with
  | [x, y, z, s], _ =>
    simp only [l3, l4, l5] at h0 h1 h2 h3
    obtain ⟨n0, e0, _⟩ := h0.int Try.underlying3
    obtain ⟨n1, e1, _⟩ := h1.int Try.underlying31
    obtain ⟨n2, e2, _⟩ := h2.int Try.underlying3
    simp at e0 e1 e2
    subst e0 e1 e2
    have h3' : Rdb Try.prog W 24 [s] := by simpa using h3
    rcases h3'.slice Try.underlying24 with e | ⟨a, len, cap, e, hlc, hm, _⟩
    · simp at e
      subst e
      obtain ⟨us, hul, hcap, hX⟩ := row_of h3'
      have : us = [] := List.eq_nil_of_length_eq_zero hul
      subst this
      exact ⟨⟨n0, n1, n2, none, 0, []⟩, rfl, ⟨Nat.le_refl _, Nat.zero_le _, hX⟩⟩
    · simp at e
      subst e
      obtain ⟨us, hul, hcap, hX⟩ := row_of h3'
      exact ⟨⟨n0, n1, n2, some a, cap, us⟩, by simp [maC, hul], ⟨by show us.length ≤ cap; omega, Nat.le_trans hm (by decide +kernel), hX⟩⟩
theorem mk_cut {T : As2} {ks : List Int} {i : Nat} (h : i < ks.length) (ex : List Value) : Cut (mkCells T ks ++ ex) (i * 2) 2 [.int .u32 (nat_ ks i), .int .i64 ((lkp (nat_ ks i) T).getD 0)] := by
  refine Cut.intro rfl fun j v hj => ?_
  induction ks generalizing i with
  | nil => simp at h
  | cons p ks ih =>
    cases i with
    | zero =>
      have hlt : j < 2 := by have := (List.getElem?_eq_some_iff.1 hj).1; simpa using this
      have e : nat_ (p :: ks) 0 = p := rfl
      rw [e] at hj
      simp only [mkCells, List.flatMap_cons, Nat.zero_mul, Nat.zero_add, List.append_assoc]
      rw [List.getElem?_append_left (by simpa using hlt)]
      exact hj
    | succ i =>
      have e : nat_ (p :: ks) (i + 1) = nat_ ks i := rfl
      rw [e] at hj
      have := ih (i := i) (by simpa using h) hj
      simp only [mkCells, List.flatMap_cons, List.append_assoc] at this ⊢
      rw [List.getElem?_append_right (by simp; omega)]
      have e2 : (i + 1) * 2 + j - [Value.int .u32 p, .int .i64 ((lkp p T).getD 0)].length = i * 2 + j := by simp; omega
      rw [e2]
      exact this
theorem strict_of {T : As2} (h : (T.map (·.1)).Nodup) : (srt (T.map (·.1))).Pairwise (· < ·) := by
  have h1 := srt_sorted (T.map (·.1))
  have h2 : (srt (T.map (·.1))).Nodup := (srt_perm _).nodup_iff.2 h
  exact (List.Pairwise.and h1 h2).imp fun h => by omega
theorem val_le {b : Int} {k : Nat} {long : Int} {T : As2} (h : MkOk b k long T) (q : Int) : (lkp q T).getD 0 ≤ long := by
  cases e : lkp q T with
  | none => exact h.lo
  | some v => exact (h.at_ _ (lkp_in e)).2
section
variable {P : Program} {fid : Fm} {n : Nat} {post : Post} {k : List Item} {ρ : Env} {L R : List HProp} {ops : List Oper} {ls : List Bool}
theorem TD.slot {d : Nat} {v v' : Value} (h : look d ρ = some v) (e : v = v') (ht : TD P fid n post ops ls R k ((d, v') :: ρ) L) : TD P fid n post ops ls R k ρ L := by
  subst e
  have hs : Sub ρ ((d, v) :: ρ) := Sub.cons h rfl (Sub.refl ρ)
  intro w0 F a w s gr st hsf
  exact ht w0 F a w s (gr.sub hs) st hsf
end
attribute [local irreducible] SL.TK SL.TO SL.TD SL.PV SL.Pick SL.Frm SL.Ent SL.Sub SL.EvAll SL.seps SL.sep SL.Cut SL.PutAt SL.blk SL.EvP SL.Fill SL.Src SL.EntD SL.own SL.ex SL.fact SL.orig

/-! the two rows that are told -/
def mrI (nb b1 b2 N c1 c2 : Nat) (s2 s9 s32 s33 s34 : Value) (long : Int) (T : As2) (ks : List Int) (ex ex' : List Value) (X Y : HProp) (ρ : Env) (L : List HProp) (me : Nat) : Prop := ∃ i : Nat, i ≤ N ∧
  ρ = [(2, s2), (7, .pointer (some ⟨nb, 0, none⟩)), (9, s9), (15, .slice (some ⟨b1, 0, none⟩) N c1), (16, .slice (some ⟨b2, 0, none⟩) N c2), (32, s32), (33, s33), (34, s34), (93, .int .i64 N), (94, .int .i64 i)] ∧
  L = [MarksAt nb long T, X, Y, SL.blk b1 61 (mkCells T ks ++ ex), SL.blk b2 61 (mkCells T ks ++ ex')] ∧ me = N - i
set_option maxHeartbeats 4000000 in
theorem mr_loop {post : Post} {kk : List Item} (nb N c1 c2 : Nat) (a1 a2 : Option Addr) (s2 s9 s32 s33 s34 : Value) (long b : Int) (k : Nat) (T : As2) (ks : List Int) (X Y : HProp) (h : MkOk b k long T) (hks : ks.Pairwise (· < ·)) (hN : ks.length = N) (hN1 : N ≤ 1000)
    (hK : TK Try.prog 5 Try.f5.ntmps post kk [(2, s2), (7, .pointer (some ⟨nb, 0, none⟩)), (9, s9), (32, s32), (33, s33), (34, s34)] [MarksAt nb long T, X, Y]) :
    TK Try.prog 5 Try.f5.ntmps post (.code (loopAt Try.f5 1) :: kk)
      [(2, s2), (7, .pointer (some ⟨nb, 0, none⟩)), (9, s9), (15, .slice a1 N c1), (16, .slice a2 N c2), (32, s32), (33, s33), (34, s34), (93, .int .i64 N), (94, .int .i64 0)]
      [MarksAt nb long T, X, Y, own 61 2 a1 N c1 (mkCells T ks), own 61 2 a2 N c2 (mkCells T ks)] := by
  have hKH := Lib.hid hK
  clear hK
  refine SL.TK.block ?_
  by_cases hz : N = 0
  · subst hz
    refine SL.TK.loopD (fun ρ L m => ρ = [(2, s2), (7, .pointer (some ⟨nb, 0, none⟩)), (9, s9), (32, s32), (33, s33), (34, s34), (93, .int .i64 0), (94, .int .i64 0)] ∧ L = [MarksAt nb long T, X, Y] ∧ m = 0) ?_ (m0 := 0) ⟨rfl, rfl, rfl⟩ (by first | ((repeat (first | exact SL.Sub.nil | refine SL.Sub.cons (by rfl) (by first | rfl | exact SL.int_eq (by omega)) ?_)); done) | fail) (EntD.cons (by first | ((repeat (first | exact SL.Pick.head | apply SL.Pick.tail)); done) | fail) (EntD.cons (by first | ((repeat (first | exact SL.Pick.head | apply SL.Pick.tail)); done) | fail) (EntD.cons (by first | ((repeat (first | exact SL.Pick.head | apply SL.Pick.tail)); done) | fail) EntD.nil)))
    rintro ρ L m ⟨rfl, rfl, rfl⟩ ih
    clear ih
    repeat' (first | (refine SL.TO.is ?_; first | refine SL.TO.nil ?_ | (refine SL.TO.nilD ?_; simp only [SL.setB]) | refine SL.W.pass ?_ | refine SL.W.pass0 ?_ | (refine SL.W.pure ?_; first | refine SL.W.pv ?_ | refine SL.W.pv0 ?_ | refine SL.W.lenMp ?_ | (refine SL.W.guardP (fun h => ?_) (fun h => ?_) <;> (fail_if_success (have : h = trivial := rfl)) <;> (fail_if_success (have : h = not_false := rfl)) <;> first | contradiction | (exfalso; omega) | (exfalso; revert h; simp; done) | skip) | (refine SL.W.guardB (fun h => ?_) (fun h => ?_) <;> (fail_if_success (have : h = (rfl : true = true) := rfl)) <;> (fail_if_success (have : h = (rfl : false = false) := rfl)))) | (refine SL.W.loud ?_; first | refine SL.W.load ?_ | refine SL.W.loadA ?_ | refine SL.W.store ?_ | refine SL.W.storeA ?_ | (refine SL.W.box ?_; intro b) | (refine SL.W.alloc ?_; intro b) | (refine SL.W.buildSlice ?_; intro b) | (refine SL.W.append ?_; intro a cap) | refine SL.W.bytesToStr ?_ | refine SL.W.pvn (SL.PV.toIntC (by rfl) (by first | exact SL.wrap_i64 (by omega) | exact SL.wrap_u8 (by omega) | exact SL.wrap_u32 (by omega) | exact SL.wrap_u64 (by omega) | rfl)) ?_ | (refine SL.W.makeSlice ?_; intro b) | refine SL.W.lookupOk ?_ | refine SL.W.lookup ?_ | (refine SL.W.makeMap ?_; intro b) | refine SL.W.mapUpdate ?_ | (refine SL.W.mapEntry ?_; intro stamp) | refine SL.W.entryStore ?_ | (refine SL.W.range ?_; intro it) | refine SL.W.delete ?_ | (refine SL.W.guardP (fun h => ?_) (fun h => ?_) <;> (fail_if_success (have : h = trivial := rfl)) <;> (fail_if_success (have : h = not_false := rfl)) <;> first | contradiction | (exfalso; omega) | (exfalso; revert h; simp; done) | skip) | (refine SL.W.guardB (fun h => ?_) (fun h => ?_) <;> (fail_if_success (have : h = (rfl : true = true) := rfl)) <;> (fail_if_success (have : h = (rfl : false = false) := rfl))))) | (refine SL.TK.is ?_; first | (refine SL.TK.weakD (by first | ((repeat (first | exact SL.Sub.nil | refine SL.Sub.cons (by rfl) (by first | rfl | exact SL.int_eq (by omega)) ?_)); done) | fail) EntD.refl hKH.out) | refine SL.TK.seq ?_ | refine SL.TK.region ?_ | refine SL.TK.regionD SL.mixed (by simp only [SL.falses] <;> rfl) ?_ | refine SL.TK.block ?_ | refine SL.TK.inBlock ?_ | refine SL.TK.skip ?_ | refine SL.TK.scope ?_ | refine SL.TK.inScope ?_ | refine SL.TK.label ?_ | refine SL.W.exit ?_ | refine SL.W.condT ?_ | refine SL.W.condF ?_ | (refine SL.W.condP (fun h => ?_) (fun h => ?_) <;> (fail_if_success (have : h = trivial := rfl)) <;> (fail_if_success (have : h = not_false := rfl)) <;> first | contradiction | (exfalso; omega) | (exfalso; revert h; simp; done) | skip) | refine SL.W.condB (fun h => ?_) (fun h => ?_)) | (refine SL.TD.is ?_; first | (refine SL.W.dfin ?_; simp only [List.append_nil, List.cons_append, List.nil_append]) | refine SL.W.dpass ?_ | refine SL.W.dpure ?_ | refine SL.W.dload ?_ | refine SL.W.dloadA ?_ | refine SL.W.dfrz ?_ | (refine SL.W.dthaw ?_; simp only [List.append_nil, List.cons_append, List.nil_append]) | (refine SL.W.dguardP (fun h => ?_) (fun h => ?_) <;> (fail_if_success (have : h = trivial := rfl)) <;> (fail_if_success (have : h = not_false := rfl)) <;> first | contradiction | (exfalso; omega) | (exfalso; revert h; simp; done) | skip) | (refine SL.W.dguardB (fun h => ?_) (fun h => ?_) <;> (fail_if_success (have : h = (rfl : true = true) := rfl)) <;> (fail_if_success (have : h = (rfl : false = false) := rfl))) | refine SL.W.done ?_ | refine SL.W.dtwo ?_ ?_ | refine SL.W.dthree ?_ ?_ ?_))
  · have hmk : (mkCells T ks).length = N * 2 := by rw [mkCells_length, hN]
    refine SL.TK.ownPos (e := 61) (sz := 2) (a := a1) (m := N) (cap := c1) (by first | ((repeat (first | exact SL.Pick.head | apply SL.Pick.tail)); done) | fail) (by omega) (fun b1 ex ea e1 e2 e3 => ?_)
    subst ea
    refine SL.TK.ownPos (e := 61) (sz := 2) (a := a2) (m := N) (cap := c2) (by first | ((repeat (first | exact SL.Pick.head | apply SL.Pick.tail)); done) | fail) (by omega) (fun b2 ex' ea e4 e5 e6 => ?_)
    subst ea
    clear e1 e2 e4 e5 hmk
    refine SL.TK.loopD (mrI nb b1 b2 N c1 c2 s2 s9 s32 s33 s34 long T ks ex ex' X Y) ?_ ⟨0, Nat.zero_le _, rfl, rfl, rfl⟩ (by first | ((repeat (first | exact SL.Sub.nil | refine SL.Sub.cons (by rfl) (by first | rfl | exact SL.int_eq (by omega)) ?_)); done) | fail) (EntD.cons (by first | ((repeat (first | exact SL.Pick.head | apply SL.Pick.tail)); done) | fail) (EntD.cons (by first | ((repeat (first | exact SL.Pick.head | apply SL.Pick.tail)); done) | fail) (EntD.cons (by first | ((repeat (first | exact SL.Pick.head | apply SL.Pick.tail)); done) | fail) (EntD.cons (by first | ((repeat (first | exact SL.Pick.head | apply SL.Pick.tail)); done) | fail) (EntD.cons (by first | ((repeat (first | exact SL.Pick.head | apply SL.Pick.tail)); done) | fail) EntD.nil)))))
    rintro ρ L m ⟨i, hi, rfl, rfl, rfl⟩ ih
    by_cases hlt : i < N
    · have hlg := Lib.hid (mkLong_spec nb long T)
      have hv := val_le h (nat_ ks i)
      have hc1 := mk_cut (T := T) (ks := ks) (i := i) (by omega) ex
      have hc2 := mk_cut (T := T) (ks := ks) (i := i) (by omega) ex'
      obtain ⟨q, hq⟩ : ∃ q, q = nat_ ks i := ⟨_, rfl⟩
      rw [← hq] at hv hc1 hc2
      obtain ⟨v, hvv⟩ : ∃ v, v = (lkp q T).getD 0 := ⟨_, rfl⟩
      rw [← hvv] at hv hc1 hc2
      have hq0 : nth (mkCells T ks ++ ex) (i * 2) = some (.int .u32 q) := cut_nth (j := 0) hc1 rfl
      have hq1 : nth (mkCells T ks ++ ex) (i * 2 + 1) = some (.int .i64 v) := cut_nth (j := 1) hc1 rfl
      have hne : Value.bool (!eqCells [.int .u32 q, .int .i64 v] [.int .u32 q, .int .i64 v]) = .bool false := by simp [eqCells, cellEq]
      by_cases h0 : i = 0
      · subst h0
        obtain ⟨cs, hcs⟩ : ∃ cs, cs = mkCells T ks ++ ex := ⟨_, rfl⟩
        obtain ⟨cs', hcs'⟩ : ∃ cs', cs' = mkCells T ks ++ ex' := ⟨_, rfl⟩
        rw [← hcs] at hc1 hq0 hq1
        rw [← hcs'] at hc2
        have hH := Lib.hid (And.intro hcs hcs')
        rw [← hcs, ← hcs']
        clear hKH hcs hcs' hq hvv h hks
        repeat' (first | (refine SL.TO.is ?_; first | (refine SL.TO.door (o := ⟨_, .call ⟨.value (.func 19), _, _⟩, _, _, _, _⟩) ?_; first | (refine SL.W.call (hlg.out) ?_; rintro _ _ ⟨rfl, rfl⟩; try simp only [List.cons_append, List.nil_append])) | refine SL.TO.nil ?_ | (refine SL.TO.nilD ?_; simp only [SL.setB]) | refine SL.W.pass ?_ | refine SL.W.pass0 ?_ | (refine SL.W.pure ?_; first | refine SL.W.pv ?_ | refine SL.W.pv0 ?_ | refine SL.W.lenMp ?_ | (refine SL.W.guardP (fun h => ?_) (fun h => ?_) <;> (fail_if_success (have : h = trivial := rfl)) <;> (fail_if_success (have : h = not_false := rfl)) <;> first | contradiction | (exfalso; omega) | (exfalso; revert h; simp; done) | skip) | (refine SL.W.guardB (fun h => ?_) (fun h => ?_) <;> (fail_if_success (have : h = (rfl : true = true) := rfl)) <;> (fail_if_success (have : h = (rfl : false = false) := rfl)))) | (refine SL.W.loud ?_; first | refine SL.W.load ?_ | refine SL.W.loadA ?_ | refine SL.W.store ?_ | refine SL.W.storeA ?_ | (refine SL.W.box ?_; intro b) | (refine SL.W.alloc ?_; intro b) | (refine SL.W.buildSlice ?_; intro b) | (refine SL.W.append ?_; intro a cap) | refine SL.W.bytesToStr ?_ | refine SL.W.pvn (SL.PV.toIntC (by rfl) (by first | exact SL.wrap_i64 (by omega) | exact SL.wrap_u8 (by omega) | exact SL.wrap_u32 (by omega) | exact SL.wrap_u64 (by omega) | rfl)) ?_ | (refine SL.W.makeSlice ?_; intro b) | refine SL.W.lookupOk ?_ | refine SL.W.lookup ?_ | (refine SL.W.makeMap ?_; intro b) | refine SL.W.mapUpdate ?_ | (refine SL.W.mapEntry ?_; intro stamp) | refine SL.W.entryStore ?_ | (refine SL.W.range ?_; intro it) | refine SL.W.delete ?_ | (refine SL.W.guardP (fun h => ?_) (fun h => ?_) <;> (fail_if_success (have : h = trivial := rfl)) <;> (fail_if_success (have : h = not_false := rfl)) <;> first | contradiction | (exfalso; omega) | (exfalso; revert h; simp; done) | skip) | (refine SL.W.guardB (fun h => ?_) (fun h => ?_) <;> (fail_if_success (have : h = (rfl : true = true) := rfl)) <;> (fail_if_success (have : h = (rfl : false = false) := rfl))))) | (refine SL.TK.is ?_; first | refine SL.TK.seq ?_ | refine SL.TK.region ?_ | refine SL.TK.regionD SL.mixed (by simp only [SL.falses] <;> rfl) ?_ | refine SL.TK.block ?_ | refine SL.TK.inBlock ?_ | refine SL.TK.skip ?_ | refine SL.TK.scope ?_ | refine SL.TK.inScope ?_ | refine SL.TK.label ?_ | refine SL.W.exit ?_ | refine SL.W.condT ?_ | refine SL.W.condF ?_ | (refine SL.W.condP (fun h => ?_) (fun h => ?_) <;> (fail_if_success (have : h = trivial := rfl)) <;> (fail_if_success (have : h = not_false := rfl)) <;> first | contradiction | (exfalso; omega) | (exfalso; revert h; simp; done) | skip) | refine SL.W.condB (fun h => ?_) (fun h => ?_)) | (refine SL.TD.is ?_; first | refine SL.TD.slot (d := 105) (by rfl) hne ?_ | refine SL.W.dloadAN hc1 ?_ | refine SL.W.dloadAN hc2 ?_ | refine SL.W.dloadN hq0 ?_ | refine SL.W.dloadN hq1 ?_ | (refine SL.W.dfin ?_; simp only [List.append_nil, List.cons_append, List.nil_append]) | refine SL.W.dpass ?_ | refine SL.W.dpure ?_ | refine SL.W.dload ?_ | refine SL.W.dloadA ?_ | refine SL.W.dfrz ?_ | (refine SL.W.dthaw ?_; simp only [List.append_nil, List.cons_append, List.nil_append]) | (refine SL.W.dguardP (fun h => ?_) (fun h => ?_) <;> (fail_if_success (have : h = trivial := rfl)) <;> (fail_if_success (have : h = not_false := rfl)) <;> first | contradiction | (exfalso; omega) | (exfalso; revert h; simp; done) | skip) | (refine SL.W.dguardB (fun h => ?_) (fun h => ?_) <;> (fail_if_success (have : h = (rfl : true = true) := rfl)) <;> (fail_if_success (have : h = (rfl : false = false) := rfl))) | refine SL.W.done ?_ | refine SL.W.dtwo ?_ ?_ | refine SL.W.dthree ?_ ?_ ?_))
        all_goals
          refine SL.TK.againD ih ⟨0 + 1, by omega, rfl, rfl, rfl⟩ (by first | ((repeat (first | exact SL.Sub.nil | refine SL.Sub.cons (by rfl) (by first | rfl | exact SL.int_eq (by omega)) ?_)); done) | fail) ?_ (by omega)
          rw [hH.out.1, hH.out.2]
          exact EntD.cons (by first | ((repeat (first | exact SL.Pick.head | apply SL.Pick.tail)); done) | fail) (EntD.cons (by first | ((repeat (first | exact SL.Pick.head | apply SL.Pick.tail)); done) | fail) (EntD.cons (by first | ((repeat (first | exact SL.Pick.head | apply SL.Pick.tail)); done) | fail) (EntD.cons (by first | ((repeat (first | exact SL.Pick.head | apply SL.Pick.tail)); done) | fail) (EntD.cons (by first | ((repeat (first | exact SL.Pick.head | apply SL.Pick.tail)); done) | fail) EntD.nil))))
      · obtain ⟨j, rfl⟩ : ∃ j, i = j + 1 := ⟨i - 1, by omega⟩
        have hc0 := mk_cut (T := T) (ks := ks) (i := j) (by omega) ex
        have hp0 : nth (mkCells T ks ++ ex) (j * 2) = some (.int .u32 (nat_ ks j)) := cut_nth (j := 0) hc0 rfl
        have e117 : Value.int .i64 (((j + 1 : Nat) : Int) - 1) = .int .i64 (j : Int) := int_eq (by omega)
        have hlt2 : nat_ ks j < q := by
          rw [hq, ← nat_eq (by omega), ← nat_eq (by omega)]
          exact List.pairwise_iff_getElem.1 hks j (j + 1) (by omega) (by omega) (by omega)
        obtain ⟨q0, hq0'⟩ : ∃ q0, q0 = nat_ ks j := ⟨_, rfl⟩
        rw [← hq0'] at hp0 hlt2
        obtain ⟨cs, hcs⟩ : ∃ cs, cs = mkCells T ks ++ ex := ⟨_, rfl⟩
        obtain ⟨cs', hcs'⟩ : ∃ cs', cs' = mkCells T ks ++ ex' := ⟨_, rfl⟩
        rw [← hcs] at hc1 hq0 hq1 hp0
        rw [← hcs'] at hc2
        have hH := Lib.hid (And.intro hcs hcs')
        rw [← hcs, ← hcs']
        clear hKH hcs hcs' hq hvv hq0' hc0 h hks
        repeat' (first | (refine SL.TO.is ?_; first | (refine SL.TO.door (o := ⟨_, .call ⟨.value (.func 19), _, _⟩, _, _, _, _⟩) ?_; first | (refine SL.W.call (hlg.out) ?_; rintro _ _ ⟨rfl, rfl⟩; try simp only [List.cons_append, List.nil_append])) | refine SL.TO.nil ?_ | (refine SL.TO.nilD ?_; simp only [SL.setB]) | refine SL.W.pass ?_ | refine SL.W.pass0 ?_ | (refine SL.W.pure ?_; first | refine SL.W.pv ?_ | refine SL.W.pv0 ?_ | refine SL.W.lenMp ?_ | (refine SL.W.guardP (fun h => ?_) (fun h => ?_) <;> (fail_if_success (have : h = trivial := rfl)) <;> (fail_if_success (have : h = not_false := rfl)) <;> first | contradiction | (exfalso; omega) | (exfalso; revert h; simp; done) | skip) | (refine SL.W.guardB (fun h => ?_) (fun h => ?_) <;> (fail_if_success (have : h = (rfl : true = true) := rfl)) <;> (fail_if_success (have : h = (rfl : false = false) := rfl)))) | (refine SL.W.loud ?_; first | refine SL.W.load ?_ | refine SL.W.loadA ?_ | refine SL.W.store ?_ | refine SL.W.storeA ?_ | (refine SL.W.box ?_; intro b) | (refine SL.W.alloc ?_; intro b) | (refine SL.W.buildSlice ?_; intro b) | (refine SL.W.append ?_; intro a cap) | refine SL.W.bytesToStr ?_ | refine SL.W.pvn (SL.PV.toIntC (by rfl) (by first | exact SL.wrap_i64 (by omega) | exact SL.wrap_u8 (by omega) | exact SL.wrap_u32 (by omega) | exact SL.wrap_u64 (by omega) | rfl)) ?_ | (refine SL.W.makeSlice ?_; intro b) | refine SL.W.lookupOk ?_ | refine SL.W.lookup ?_ | (refine SL.W.makeMap ?_; intro b) | refine SL.W.mapUpdate ?_ | (refine SL.W.mapEntry ?_; intro stamp) | refine SL.W.entryStore ?_ | (refine SL.W.range ?_; intro it) | refine SL.W.delete ?_ | (refine SL.W.guardP (fun h => ?_) (fun h => ?_) <;> (fail_if_success (have : h = trivial := rfl)) <;> (fail_if_success (have : h = not_false := rfl)) <;> first | contradiction | (exfalso; omega) | (exfalso; revert h; simp; done) | skip) | (refine SL.W.guardB (fun h => ?_) (fun h => ?_) <;> (fail_if_success (have : h = (rfl : true = true) := rfl)) <;> (fail_if_success (have : h = (rfl : false = false) := rfl))))) | (refine SL.TK.is ?_; first | refine SL.TK.seq ?_ | refine SL.TK.region ?_ | refine SL.TK.regionD SL.mixed (by simp only [SL.falses] <;> rfl) ?_ | refine SL.TK.block ?_ | refine SL.TK.inBlock ?_ | refine SL.TK.skip ?_ | refine SL.TK.scope ?_ | refine SL.TK.inScope ?_ | refine SL.TK.label ?_ | refine SL.W.exit ?_ | refine SL.W.condT ?_ | refine SL.W.condF ?_ | (refine SL.W.condP (fun h => ?_) (fun h => ?_) <;> (fail_if_success (have : h = trivial := rfl)) <;> (fail_if_success (have : h = not_false := rfl)) <;> first | contradiction | (exfalso; omega) | (exfalso; revert h; simp; done) | skip) | refine SL.W.condB (fun h => ?_) (fun h => ?_)) | (refine SL.TD.is ?_; first | refine SL.TD.slot (d := 105) (by rfl) hne ?_ | refine SL.TD.slot (d := 117) (by rfl) e117 ?_ | refine SL.W.dloadAN hc1 ?_ | refine SL.W.dloadAN hc2 ?_ | refine SL.W.dloadN hq0 ?_ | refine SL.W.dloadN hq1 ?_ | refine SL.W.dloadN hp0 ?_ | (refine SL.W.dfin ?_; simp only [List.append_nil, List.cons_append, List.nil_append]) | refine SL.W.dpass ?_ | refine SL.W.dpure ?_ | refine SL.W.dload ?_ | refine SL.W.dloadA ?_ | refine SL.W.dfrz ?_ | (refine SL.W.dthaw ?_; simp only [List.append_nil, List.cons_append, List.nil_append]) | (refine SL.W.dguardP (fun h => ?_) (fun h => ?_) <;> (fail_if_success (have : h = trivial := rfl)) <;> (fail_if_success (have : h = not_false := rfl)) <;> first | contradiction | (exfalso; omega) | (exfalso; revert h; simp; done) | skip) | (refine SL.W.dguardB (fun h => ?_) (fun h => ?_) <;> (fail_if_success (have : h = (rfl : true = true) := rfl)) <;> (fail_if_success (have : h = (rfl : false = false) := rfl))) | refine SL.W.done ?_ | refine SL.W.dtwo ?_ ?_ | refine SL.W.dthree ?_ ?_ ?_))
        all_goals
          refine SL.TK.againD ih ⟨j + 1 + 1, by omega, rfl, rfl, rfl⟩ (by first | ((repeat (first | exact SL.Sub.nil | refine SL.Sub.cons (by rfl) (by first | rfl | exact SL.int_eq (by omega)) ?_)); done) | fail) ?_ (by omega)
          rw [hH.out.1, hH.out.2]
          exact EntD.cons (by first | ((repeat (first | exact SL.Pick.head | apply SL.Pick.tail)); done) | fail) (EntD.cons (by first | ((repeat (first | exact SL.Pick.head | apply SL.Pick.tail)); done) | fail) (EntD.cons (by first | ((repeat (first | exact SL.Pick.head | apply SL.Pick.tail)); done) | fail) (EntD.cons (by first | ((repeat (first | exact SL.Pick.head | apply SL.Pick.tail)); done) | fail) (EntD.cons (by first | ((repeat (first | exact SL.Pick.head | apply SL.Pick.tail)); done) | fail) EntD.nil))))
    · have hin : i = N := by omega
      subst hin
      clear ih h hks
      repeat' (first | (refine SL.TO.is ?_; first | refine SL.TO.nil ?_ | (refine SL.TO.nilD ?_; simp only [SL.setB]) | refine SL.W.pass ?_ | refine SL.W.pass0 ?_ | (refine SL.W.pure ?_; first | refine SL.W.pv ?_ | refine SL.W.pv0 ?_ | refine SL.W.lenMp ?_ | (refine SL.W.guardP (fun h => ?_) (fun h => ?_) <;> (fail_if_success (have : h = trivial := rfl)) <;> (fail_if_success (have : h = not_false := rfl)) <;> first | contradiction | (exfalso; omega) | (exfalso; revert h; simp; done) | skip) | (refine SL.W.guardB (fun h => ?_) (fun h => ?_) <;> (fail_if_success (have : h = (rfl : true = true) := rfl)) <;> (fail_if_success (have : h = (rfl : false = false) := rfl)))) | (refine SL.W.loud ?_; first | refine SL.W.load ?_ | refine SL.W.loadA ?_ | refine SL.W.store ?_ | refine SL.W.storeA ?_ | (refine SL.W.box ?_; intro b) | (refine SL.W.alloc ?_; intro b) | (refine SL.W.buildSlice ?_; intro b) | (refine SL.W.append ?_; intro a cap) | refine SL.W.bytesToStr ?_ | refine SL.W.pvn (SL.PV.toIntC (by rfl) (by first | exact SL.wrap_i64 (by omega) | exact SL.wrap_u8 (by omega) | exact SL.wrap_u32 (by omega) | exact SL.wrap_u64 (by omega) | rfl)) ?_ | (refine SL.W.makeSlice ?_; intro b) | refine SL.W.lookupOk ?_ | refine SL.W.lookup ?_ | (refine SL.W.makeMap ?_; intro b) | refine SL.W.mapUpdate ?_ | (refine SL.W.mapEntry ?_; intro stamp) | refine SL.W.entryStore ?_ | (refine SL.W.range ?_; intro it) | refine SL.W.delete ?_ | (refine SL.W.guardP (fun h => ?_) (fun h => ?_) <;> (fail_if_success (have : h = trivial := rfl)) <;> (fail_if_success (have : h = not_false := rfl)) <;> first | contradiction | (exfalso; omega) | (exfalso; revert h; simp; done) | skip) | (refine SL.W.guardB (fun h => ?_) (fun h => ?_) <;> (fail_if_success (have : h = (rfl : true = true) := rfl)) <;> (fail_if_success (have : h = (rfl : false = false) := rfl))))) | (refine SL.TK.is ?_; first | (refine SL.TK.weakD (by first | ((repeat (first | exact SL.Sub.nil | refine SL.Sub.cons (by rfl) (by first | rfl | exact SL.int_eq (by omega)) ?_)); done) | fail) (EntD.cons (by first | ((repeat (first | exact SL.Pick.head | apply SL.Pick.tail)); done) | fail) (EntD.cons (by first | ((repeat (first | exact SL.Pick.head | apply SL.Pick.tail)); done) | fail) (EntD.cons (by first | ((repeat (first | exact SL.Pick.head | apply SL.Pick.tail)); done) | fail) EntD.nil))) hKH.out) | refine SL.TK.seq ?_ | refine SL.TK.region ?_ | refine SL.TK.regionD SL.mixed (by simp only [SL.falses] <;> rfl) ?_ | refine SL.TK.block ?_ | refine SL.TK.inBlock ?_ | refine SL.TK.skip ?_ | refine SL.TK.scope ?_ | refine SL.TK.inScope ?_ | refine SL.TK.label ?_ | refine SL.W.exit ?_ | refine SL.W.condT ?_ | refine SL.W.condF ?_ | (refine SL.W.condP (fun h => ?_) (fun h => ?_) <;> (fail_if_success (have : h = trivial := rfl)) <;> (fail_if_success (have : h = not_false := rfl)) <;> first | contradiction | (exfalso; omega) | (exfalso; revert h; simp; done) | skip) | refine SL.W.condB (fun h => ?_) (fun h => ?_)) | (refine SL.TD.is ?_; first | (refine SL.W.dfin ?_; simp only [List.append_nil, List.cons_append, List.nil_append]) | refine SL.W.dpass ?_ | refine SL.W.dpure ?_ | refine SL.W.dload ?_ | refine SL.W.dloadA ?_ | refine SL.W.dfrz ?_ | (refine SL.W.dthaw ?_; simp only [List.append_nil, List.cons_append, List.nil_append]) | (refine SL.W.dguardP (fun h => ?_) (fun h => ?_) <;> (fail_if_success (have : h = trivial := rfl)) <;> (fail_if_success (have : h = not_false := rfl)) <;> first | contradiction | (exfalso; omega) | (exfalso; revert h; simp; done) | skip) | (refine SL.W.dguardB (fun h => ?_) (fun h => ?_) <;> (fail_if_success (have : h = (rfl : true = true) := rfl)) <;> (fail_if_success (have : h = (rfl : false = false) := rfl))) | refine SL.W.done ?_ | refine SL.W.dtwo ?_ ?_ | refine SL.W.dthree ?_ ?_ ?_))
end SL
