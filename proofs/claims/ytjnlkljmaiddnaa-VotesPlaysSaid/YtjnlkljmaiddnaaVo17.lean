/-
  VotesPlays: what is asked behind each call; the switch over the calls.
-/
import Derived.Test.YtjnlkljmaiddnaaVo12
import Derived.Test.YtjnlkljmaiddnaaVo16
set_option linter.unusedVariables false
set_option linter.unusedSimpArgs false
set_option maxRecDepth 10000
namespace SL
open Go Go.Proofs Go.RowKit

abbrev VAct := Int × Mt × Int
def vaC (A : VAct) : List Value := [.int .i64 A.1, .int .i64 A.2.1.1, .int .u64 A.2.1.2.1, .int .u64 A.2.1.2.2, .int .i64 A.2.2]
theorem RelV.cnt_eq {n : Nat} {V : VoT} {R : RvL} (h : RelV n V R) (m : Mt) : cnt m V = (whoR n m R).length := by unfold cnt; rw [h.who]
theorem addR_len (m : Mt) (x : Int) (R : RvL) : (addR m x R).length ≤ R.length + 1 := by unfold addR; split <;> simp
theorem drpR_len (m : Mt) (R : RvL) : (drpR m R).length ≤ R.length := List.length_filter_le _ _
theorem belR_len (v : Int) (R : RvL) : (belR v R).length ≤ R.length := List.length_filter_le _ _
theorem bool_self (b : Bool) : Value.bool (decide (b = b)) = .bool true := by simp
theorem und2M : Try.prog.underlying 60 = some (.array 2 50) := by kernel_rfl
attribute [local irreducible] SL.TK SL.TO SL.TD SL.PV SL.Pick SL.Frm SL.Ent SL.Sub SL.EvAll SL.seps SL.sep SL.Cut SL.PutAt SL.blk SL.EvP SL.Fill SL.Src SL.EntD SL.own SL.ex SL.fact SL.orig

def vqI (vb rb n ob : Nat) (V : VoT) (R : RvL) (s1 s5 s11 : Value) (cs6 ocs : List Value) (X Y : HProp) (ρ : Env) (L : List HProp) (me : Nat) : Prop := ∃ i : Nat, i ≤ 2 ∧
  ρ = [(1, s1), (5, s5), (7, .pointer (some ⟨vb, 0, none⟩)), (9, .pointer (some ⟨rb, 0, none⟩)), (11, s11), (12, .pointer (some ⟨ob, 0, none⟩)), (14, .bool true), (141, .agg cs6.toArray), (142, .int .i64 i)] ∧
  L = [X, Y, VotesAt vb n V, RefAt rb n R, SL.blk ob 55 ocs] ∧ me = 2 - i
set_option maxHeartbeats 4000000 in
/-- what is asked behind a call -/
theorem vp_ask {post : Post} {k : List Item} (vb rb n ob : Nat) (V : VoT) (R : RvL) (m1 m2 m3 q1 q2 q3 nd : Int) (ocs : List Value) (X Y : HProp) (h : RelV n V R) (hn : n ≤ 7) (hR : R.length ≤ 1000000) (hnd : nth ocs 4 = some (.int .i64 nd)) (s1 s5 s11 : Value)
    (hK : TK Try.prog 7 Try.f7.ntmps post k [(1, s1), (5, s5), (7, .pointer (some ⟨vb, 0, none⟩)), (9, .pointer (some ⟨rb, 0, none⟩)), (11, s11), (14, .bool true)] [X, Y, VotesAt vb n V, RefAt rb n R]) :
    TK Try.prog 7 Try.f7.ntmps post (.code (loopAt Try.f7 1) :: k)
      [(1, s1), (5, s5), (7, .pointer (some ⟨vb, 0, none⟩)), (9, .pointer (some ⟨rb, 0, none⟩)), (11, s11), (12, .pointer (some ⟨ob, 0, none⟩)), (14, .bool true), (141, .agg [.int .i64 m1, .int .u64 m2, .int .u64 m3, .int .i64 q1, .int .u64 q2, .int .u64 q3].toArray), (142, .int .i64 0)]
      [X, Y, VotesAt vb n V, RefAt rb n R, SL.blk ob 55 ocs] := by
  have hKH := Lib.hid hK
  clear hK
  refine SL.TK.block ?_
  refine SL.TK.loopD (vqI vb rb n ob V R s1 s5 s11 [.int .i64 m1, .int .u64 m2, .int .u64 m3, .int .i64 q1, .int .u64 q2, .int .u64 q3] ocs X Y) ?_ ⟨0, Nat.zero_le _, rfl, rfl, rfl⟩ (by first | ((repeat (first | exact SL.Sub.nil | refine SL.Sub.cons (by rfl) (by first | rfl | exact SL.int_eq (by omega)) ?_)); done) | fail) EntD.refl
  rintro ρ L me ⟨i, hi, rfl, rfl, rfl⟩ ih
  by_cases hlt : i < 2
  · obtain ⟨a, b, c, hcut⟩ : ∃ a b c : Int, Cut [Value.int .i64 m1, .int .u64 m2, .int .u64 m3, .int .i64 q1, .int .u64 q2, .int .u64 q3] (i * 3) 3 [.int .i64 a, .int .u64 b, .int .u64 c] := by
      have : i = 0 ∨ i = 1 := by omega
      rcases this with rfl | rfl
      · exact ⟨m1, m2, m3, by first | ((repeat (first | exact SL.Cut.zero _ | apply SL.Cut.take | apply SL.Cut.drop)); done) | fail⟩
      · exact ⟨q1, q2, q3, by first | ((repeat (first | exact SL.Cut.zero _ | apply SL.Cut.take | apply SL.Cut.drop)); done) | fail⟩
    obtain ⟨c6, hc6⟩ : ∃ c6, c6 = [Value.int .i64 m1, .int .u64 m2, .int .u64 m3, .int .i64 q1, .int .u64 q2, .int .u64 q3] := ⟨_, rfl⟩
    rw [← hc6] at hcut ih ⊢
    have hwv := who_spec vb n V a b c h.ok
    have hwr := rvWho_spec rb n R a b c hR hn
    have hcv := count_spec vb n V a b c h.ok
    have hhv := has_spec vb n V a b c nd h.ok
    have hhr := rvHas_spec rb n R a b c nd hR
    rw [h.who] at hwv
    rw [h.cnt_eq] at hcv
    rw [h.has] at hhv
    have hl := whoR_len n (a, b, c) R
    obtain ⟨os, hos⟩ : ∃ os, os = whoR n (a, b, c) R := ⟨_, rfl⟩
    rw [← hos] at hwv hwr hcv hl
    obtain ⟨N, hN⟩ : ∃ N, N = os.length := ⟨_, rfl⟩
    rw [← hN] at hwv hwr hcv hl
    have hsm := Lib.hid fun (x y : Option Addr) (u v : Nat) => voSame_spec x y u v N os hN.symm (by omega)
    obtain ⟨B, hB⟩ : ∃ B : Bool, B = decide (((a, b, c), nd) ∈ R) := ⟨_, rfl⟩
    rw [← hB] at hhv hhr
    have hBB := bool_self B
    have hwvH := Lib.hid hwv
    have hwrH := Lib.hid hwr
    have hcvH := Lib.hid hcv
    have hhvH := Lib.hid hhv
    have hhrH := Lib.hid hhr
    clear hKH h hwv hwr hcv hhv hhr hos hN hB hc6 hl
    repeat' (first | refine SL.W.pvn (PV.indexAg und2M (by rfl) (by rfl) rfl hlt hcut) ?_ | (refine SL.TO.is ?_; first | (refine SL.TO.door (o := ⟨_, .load _ _, _, _, _, _⟩) ?_; first | refine SL.W.loadN hnd ?_) | (refine SL.TO.door (o := ⟨_, .call ⟨.value (.func 25), _, _⟩, _, _, _, _⟩) ?_; first | (refine SL.W.call (hwvH.out) ?_; rintro _ _ ⟨a1, c1, rfl, rfl⟩; try simp only [List.cons_append, List.nil_append])) | (refine SL.TO.door (o := ⟨_, .call ⟨.value (.func 33), _, _⟩, _, _, _, _⟩) ?_; first | (refine SL.W.call (hwrH.out) ?_; rintro _ _ ⟨a2, c2, rfl, rfl⟩; try simp only [List.cons_append, List.nil_append])) | (refine SL.TO.door (o := ⟨_, .call ⟨.value (.func 24), _, _⟩, _, _, _, _⟩) ?_; first | (refine SL.W.call (hsm.out _ _ _ _) ?_; rintro _ _ ⟨rfl, rfl⟩; try simp only [List.cons_append, List.nil_append])) | (refine SL.TO.door (o := ⟨_, .call ⟨.value (.func 22), _, _⟩, _, _, _, _⟩) ?_; first | (refine SL.W.call (hcvH.out) ?_; rintro _ _ ⟨rfl, rfl⟩; try simp only [List.cons_append, List.nil_append])) | (refine SL.TO.door (o := ⟨_, .call ⟨.value (.func 21), _, _⟩, _, _, _, _⟩) ?_; first | (refine SL.W.call (hhvH.out) ?_; rintro _ _ ⟨rfl, rfl⟩; try simp only [List.cons_append, List.nil_append])) | (refine SL.TO.door (o := ⟨_, .call ⟨.value (.func 34), _, _⟩, _, _, _, _⟩) ?_; first | (refine SL.W.call (hhrH.out) ?_; rintro _ _ ⟨rfl, rfl⟩; try simp only [List.cons_append, List.nil_append])) | refine SL.TO.nil ?_ | (refine SL.TO.nilD ?_; simp only [SL.setB]) | refine SL.W.pass ?_ | refine SL.W.pass0 ?_ | (refine SL.W.pure ?_; first | refine SL.W.pv ?_ | refine SL.W.pv0 ?_ | refine SL.W.lenMp ?_ | (refine SL.W.guardP (fun h => ?_) (fun h => ?_) <;> (fail_if_success (have : h = trivial := rfl)) <;> (fail_if_success (have : h = not_false := rfl)) <;> first | contradiction | (exfalso; omega) | (exfalso; revert h; simp; done) | skip) | (refine SL.W.guardB (fun h => ?_) (fun h => ?_) <;> (fail_if_success (have : h = (rfl : true = true) := rfl)) <;> (fail_if_success (have : h = (rfl : false = false) := rfl)))) | (refine SL.W.loud ?_; first | refine SL.W.load ?_ | refine SL.W.loadA ?_ | refine SL.W.store ?_ | refine SL.W.storeA ?_ | (refine SL.W.box ?_; intro b) | (refine SL.W.alloc ?_; intro b) | (refine SL.W.buildSlice ?_; intro b) | (refine SL.W.append ?_; intro a cap) | refine SL.W.bytesToStr ?_ | refine SL.W.pvn (SL.PV.toIntC (by rfl) (by first | exact SL.wrap_i64 (by omega) | exact SL.wrap_u8 (by omega) | exact SL.wrap_u32 (by omega) | exact SL.wrap_u64 (by omega) | rfl)) ?_ | (refine SL.W.makeSlice ?_; intro b) | refine SL.W.lookupOk ?_ | refine SL.W.lookup ?_ | (refine SL.W.makeMap ?_; intro b) | refine SL.W.mapUpdate ?_ | (refine SL.W.mapEntry ?_; intro stamp) | refine SL.W.entryStore ?_ | (refine SL.W.range ?_; intro it) | refine SL.W.delete ?_ | (refine SL.W.guardP (fun h => ?_) (fun h => ?_) <;> (fail_if_success (have : h = trivial := rfl)) <;> (fail_if_success (have : h = not_false := rfl)) <;> first | contradiction | (exfalso; omega) | (exfalso; revert h; simp; done) | skip) | (refine SL.W.guardB (fun h => ?_) (fun h => ?_) <;> (fail_if_success (have : h = (rfl : true = true) := rfl)) <;> (fail_if_success (have : h = (rfl : false = false) := rfl))))) | (refine SL.TK.is ?_; first | refine SL.TK.slot (d := 14) (by rfl) (v' := .bool true) hBB ?_ | refine SL.TK.seq ?_ | refine SL.TK.region ?_ | refine SL.TK.regionD SL.mixed (by simp only [SL.falses] <;> rfl) ?_ | refine SL.TK.block ?_ | refine SL.TK.inBlock ?_ | refine SL.TK.skip ?_ | refine SL.TK.scope ?_ | refine SL.TK.inScope ?_ | refine SL.TK.label ?_ | refine SL.W.exit ?_ | refine SL.W.condT ?_ | refine SL.W.condF ?_ | (refine SL.W.condP (fun h => ?_) (fun h => ?_) <;> (fail_if_success (have : h = trivial := rfl)) <;> (fail_if_success (have : h = not_false := rfl)) <;> first | contradiction | (exfalso; omega) | (exfalso; revert h; simp; done) | skip) | refine SL.W.condB (fun h => ?_) (fun h => ?_)) | (refine SL.TD.is ?_; first | refine SL.W.dloadN hnd ?_ | (refine SL.W.dfin ?_; simp only [List.append_nil, List.cons_append, List.nil_append]) | refine SL.W.dpass ?_ | refine SL.W.dpure ?_ | refine SL.W.dload ?_ | refine SL.W.dloadA ?_ | refine SL.W.dfrz ?_ | (refine SL.W.dthaw ?_; simp only [List.append_nil, List.cons_append, List.nil_append]) | (refine SL.W.dguardP (fun h => ?_) (fun h => ?_) <;> (fail_if_success (have : h = trivial := rfl)) <;> (fail_if_success (have : h = not_false := rfl)) <;> first | contradiction | (exfalso; omega) | (exfalso; revert h; simp; done) | skip) | (refine SL.W.dguardB (fun h => ?_) (fun h => ?_) <;> (fail_if_success (have : h = (rfl : true = true) := rfl)) <;> (fail_if_success (have : h = (rfl : false = false) := rfl))) | refine SL.W.done ?_ | refine SL.W.dtwo ?_ ?_ | refine SL.W.dthree ?_ ?_ ?_))
    all_goals
      refine SL.TK.againD ih ⟨i + 1, by omega, rfl, rfl, rfl⟩ (by first | ((repeat (first | exact SL.Sub.nil | refine SL.Sub.cons (by rfl) (by first | rfl | exact SL.int_eq (by omega)) ?_)); done) | fail) ?_ (by omega)
      exact EntD.cons (by first | ((repeat (first | exact SL.Pick.head | apply SL.Pick.tail)); done) | fail) (EntD.cons (by first | ((repeat (first | exact SL.Pick.head | apply SL.Pick.tail)); done) | fail) (EntD.cons (by first | ((repeat (first | exact SL.Pick.head | apply SL.Pick.tail)); done) | fail) (EntD.cons (by first | ((repeat (first | exact SL.Pick.head | apply SL.Pick.tail)); done) | fail) (EntD.cons (by first | ((repeat (first | exact SL.Pick.head | apply SL.Pick.tail)); done) | fail) EntD.nil))))
  · have hin : i = 2 := by omega
    subst hin
    clear ih h
    repeat' (first | (refine SL.TO.is ?_; first | refine SL.TO.nil ?_ | (refine SL.TO.nilD ?_; simp only [SL.setB]) | refine SL.W.pass ?_ | refine SL.W.pass0 ?_ | (refine SL.W.pure ?_; first | refine SL.W.pv ?_ | refine SL.W.pv0 ?_ | refine SL.W.lenMp ?_ | (refine SL.W.guardP (fun h => ?_) (fun h => ?_) <;> (fail_if_success (have : h = trivial := rfl)) <;> (fail_if_success (have : h = not_false := rfl)) <;> first | contradiction | (exfalso; omega) | (exfalso; revert h; simp; done) | skip) | (refine SL.W.guardB (fun h => ?_) (fun h => ?_) <;> (fail_if_success (have : h = (rfl : true = true) := rfl)) <;> (fail_if_success (have : h = (rfl : false = false) := rfl)))) | (refine SL.W.loud ?_; first | refine SL.W.load ?_ | refine SL.W.loadA ?_ | refine SL.W.store ?_ | refine SL.W.storeA ?_ | (refine SL.W.box ?_; intro b) | (refine SL.W.alloc ?_; intro b) | (refine SL.W.buildSlice ?_; intro b) | (refine SL.W.append ?_; intro a cap) | refine SL.W.bytesToStr ?_ | refine SL.W.pvn (SL.PV.toIntC (by rfl) (by first | exact SL.wrap_i64 (by omega) | exact SL.wrap_u8 (by omega) | exact SL.wrap_u32 (by omega) | exact SL.wrap_u64 (by omega) | rfl)) ?_ | (refine SL.W.makeSlice ?_; intro b) | refine SL.W.lookupOk ?_ | refine SL.W.lookup ?_ | (refine SL.W.makeMap ?_; intro b) | refine SL.W.mapUpdate ?_ | (refine SL.W.mapEntry ?_; intro stamp) | refine SL.W.entryStore ?_ | (refine SL.W.range ?_; intro it) | refine SL.W.delete ?_ | (refine SL.W.guardP (fun h => ?_) (fun h => ?_) <;> (fail_if_success (have : h = trivial := rfl)) <;> (fail_if_success (have : h = not_false := rfl)) <;> first | contradiction | (exfalso; omega) | (exfalso; revert h; simp; done) | skip) | (refine SL.W.guardB (fun h => ?_) (fun h => ?_) <;> (fail_if_success (have : h = (rfl : true = true) := rfl)) <;> (fail_if_success (have : h = (rfl : false = false) := rfl))))) | (refine SL.TK.is ?_; first | (refine SL.TK.weakD (by first | ((repeat (first | exact SL.Sub.nil | refine SL.Sub.cons (by rfl) (by first | rfl | exact SL.int_eq (by omega)) ?_)); done) | fail) (EntD.cons (by first | ((repeat (first | exact SL.Pick.head | apply SL.Pick.tail)); done) | fail) (EntD.cons (by first | ((repeat (first | exact SL.Pick.head | apply SL.Pick.tail)); done) | fail) (EntD.cons (by first | ((repeat (first | exact SL.Pick.head | apply SL.Pick.tail)); done) | fail) (EntD.cons (by first | ((repeat (first | exact SL.Pick.head | apply SL.Pick.tail)); done) | fail) EntD.nil)))) hKH.out) | refine SL.TK.seq ?_ | refine SL.TK.region ?_ | refine SL.TK.regionD SL.mixed (by simp only [SL.falses] <;> rfl) ?_ | refine SL.TK.block ?_ | refine SL.TK.inBlock ?_ | refine SL.TK.skip ?_ | refine SL.TK.scope ?_ | refine SL.TK.inScope ?_ | refine SL.TK.label ?_ | refine SL.W.exit ?_ | refine SL.W.condT ?_ | refine SL.W.condF ?_ | (refine SL.W.condP (fun h => ?_) (fun h => ?_) <;> (fail_if_success (have : h = trivial := rfl)) <;> (fail_if_success (have : h = not_false := rfl)) <;> first | contradiction | (exfalso; omega) | (exfalso; revert h; simp; done) | skip) | refine SL.W.condB (fun h => ?_) (fun h => ?_)) | (refine SL.TD.is ?_; first | (refine SL.W.dfin ?_; simp only [List.append_nil, List.cons_append, List.nil_append]) | refine SL.W.dpass ?_ | refine SL.W.dpure ?_ | refine SL.W.dload ?_ | refine SL.W.dloadA ?_ | refine SL.W.dfrz ?_ | (refine SL.W.dthaw ?_; simp only [List.append_nil, List.cons_append, List.nil_append]) | (refine SL.W.dguardP (fun h => ?_) (fun h => ?_) <;> (fail_if_success (have : h = trivial := rfl)) <;> (fail_if_success (have : h = not_false := rfl)) <;> first | contradiction | (exfalso; omega) | (exfalso; revert h; simp; done) | skip) | (refine SL.W.dguardB (fun h => ?_) (fun h => ?_) <;> (fail_if_success (have : h = (rfl : true = true) := rfl)) <;> (fail_if_success (have : h = (rfl : false = false) := rfl))) | refine SL.W.done ?_ | refine SL.W.dtwo ?_ ?_ | refine SL.W.dthree ?_ ?_ ?_))
end SL
