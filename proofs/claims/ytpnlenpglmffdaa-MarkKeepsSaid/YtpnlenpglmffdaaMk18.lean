/-
  The given statement 'MarkKeeps': places stay within, and in order.
  Conditions: none beyond those of the given statement.
-/
import Derived.Test.YtpnlenpglmffdaaMk17
import Derived.Test.YtpnlenpglmffdaaRows
set_option linter.unusedVariables false
set_option linter.unusedSimpArgs false
set_option maxRecDepth 10000

namespace SL
open Go Go.Proofs Go.RowKit Go.ChangeShapes Go.WideShapes Go.ChangeAt Go.WideElems
section
variable {P : Program} {n : Nat} {ρ : Env} {ty : TypeId} {pos : String} {af : Array Edge} {g : Option (Nat × Bool)}
/-- the address of an array's entry -/
theorem PV.indexArr {dst : Option Nat} {x y : Operand} {t e sz len b o i' o' : Nat} {i : Int} {kd : IntKind} (ht : P.underlying t = some (.array len e)) (hs : (P.info? e).map (·.size) = some sz) (hl : 1 < len)
    (hx : ev ρ x = some (.pointer (some ⟨b, o, none⟩))) (hy : ev ρ y = some (.int kd i)) (hi : i = (i' : Int)) (hb : i' < len) (ho : o' = o + i' * sz) :
    PV P n ρ ⟨dst, .indexAddr t x y, ty, pos, af, g⟩ (.pointer (some ⟨b, o', none⟩)) := fun a w gr => by
  subst hi ho
  have ha : (⟨b, o, Option.none⟩ : Addr).add (i' * sz) = ⟨b, o + i' * sz, Option.none⟩ := by
    unfold Addr.add; split <;> simp_all
  have hsz : (Go.sizeOf e).run P w = Go.Result.ok sz w := by
    cases hi : P.info? e with
    | none => simp [hi] at hs
    | some inf => simp [hi] at hs; simp [Go.sizeOf, typeInfo, hi, hs]
  have hnl : ¬ len ≤ 1 := by omega
  simp [execOp, gr.eval hx, gr.eval hy, Instr.indexAt, Instr.sureAddr, asIntOf, run_und ht, hb, hsz, ha, hnl]
end
/-- a row among rows -/
structure Rw where
  a : Option Addr
  cap : Nat
  us : List Un
def rwC (A : Rw) : List Value := [.slice A.a A.us.length A.cap]
structure RwOk (W : World) (A : Rw) : Prop where
  cap : A.us.length ≤ A.cap
  row : RowX (SL.orig W) A.a A.us
theorem rw_of {W : World} {cs : List Value} (h : Rdb Try.prog W 24 cs) : ∃ A : Rw, cs = rwC A ∧ RwOk W A := by
  rcases h.slice Try.underlying24 with e | ⟨a, len, cap, e, hlc, hm, _⟩
  · subst e
    exact ⟨⟨none, 0, []⟩, rfl, ⟨Nat.le_refl _, .empty⟩⟩
  · subst e
    obtain ⟨us, hul, hcap, hX⟩ := row_of h
    exact ⟨⟨some a, cap, us⟩, by simp [rwC, hul], ⟨by show us.length ≤ cap; omega, hX⟩⟩
theorem two_in {W : World} {base : Nat} {H : Type} {enc : TypeId × Value → H} {v : Value} {d : DataW H} {ps : List MemPlace}
    (hval : Value.okWide Try.prog W .any base 40 v) (h : DataW.Trod enc Try.prog W 0 (fun _ => true) true 40 v d ps) :
    ∃ x y : Int, v = .agg #[.int .u8 x, .int .u8 y] ∧ (0 ≤ x ∧ x ≤ 255) ∧ (0 ≤ y ∧ y ≤ 255) := by
  have hr := Rdb.of h
  simp only [Value.okWide, Try.underlying40] at hval
  obtain ⟨cs, rfl, h2, _⟩ := hval
  obtain ⟨hl, hf⟩ := hr.array Try.underlying40
  have l2 : Try.prog.cellsOf 40 = 2 := by kernel_rfl
  have l1 : Try.prog.cellsOf 5 = 1 := by kernel_rfl
  have h0 := hf 0 (by decide)
  have h1 := hf 1 (by decide)
  simp only [l1, l2, Value.cells] at h0 h1 hl
  obtain ⟨cs⟩ := cs
  match cs, hl with
  | [x, y], _ =>
    obtain ⟨n0, e0, w0⟩ := h0.int Try.underlying5
    obtain ⟨n1, e1, w1⟩ := h1.int Try.underlying5
    simp at e0 e1
    subst e0 e1
    exact ⟨n0, n1, rfl, u8_of w0, u8_of w1⟩
theorem longR_bad {us : List Un} {n : Int} {m e : Int} (h : longR us n = (m, e)) (he : e ≠ 0) : (longR us n).2 ≠ 0 := by rw [h]; exact he
attribute [local irreducible] SL.TK SL.TO SL.TD SL.PV SL.Pick SL.Frm SL.Ent SL.Sub SL.EvAll SL.seps SL.sep SL.Cut SL.PutAt SL.blk SL.EvP SL.Fill SL.Src SL.EntD SL.own SL.ex SL.fact SL.orig
theorem mkNew_ok (long : Int) (h : 0 ≤ long) : Spec Try.prog 12 [.int .i64 long] [] (fun r L => ∃ nb, r = .tuple #[.pointer (some ⟨nb, 0, none⟩), .int .i64 0] ∧ L = [MarksAt nb long []]) := by
  refine SL.Spec.postD (mkNew_spec long) ?_
  rintro v L (⟨h, _⟩ | ⟨_, nb, rfl, rfl⟩)
  · omega
  · exact ⟨_, ⟨nb, rfl, rfl⟩, EntD.refl⟩
theorem mkSet_ok (nb : Nat) (long q p : Int) (T T' : As2) (h : 0 ≤ p ∧ p ≤ long) (hT : iup q p T = T') : Spec Try.prog 14 [.pointer (some ⟨nb, 0, none⟩), .int .u32 q, .int .i64 p] [MarksAt nb long T] (fun r L => r = .int .i64 0 ∧ L = [MarksAt nb long T']) := by
  have := mkSet_spec nb long q p T
  rwa [if_pos h, if_pos h, hT] at this
theorem mkGo_ok {X : HProp} (a : Option Addr) (cap nb : Nat) (long m : Int) (us : List Un) (T T' : As2) (hX : RowX X a us) (hl : us.length ≤ 1000000) (hn : 0 ≤ long ∧ long ≤ 1099511627776) (hT : ∀ p ∈ T, -1000000000000 ≤ p.2 ∧ p.2 ≤ 1099511627776) (h : longU us long = some m) (hT' : goA us T = T') :
    Spec Try.prog 16 [.pointer (some ⟨nb, 0, none⟩), .slice a us.length cap] [MarksAt nb long T, X] (fun r L => r = .int .i64 0 ∧ L = [MarksAt nb m T', X]) := by
  have := mkGo_spec a cap nb long us T hX hl (by omega) hT
  have e : longR us long = (m, 0) := by unfold longR; rw [if_neg (by rw [fits_may h]; simp; omega), h]
  rw [e, if_pos rfl, if_pos rfl, hT'] at this
  exact this
theorem mkGet_ok (nb : Nat) (long q p : Int) (T : As2) (h : lkp q T = some p) : Spec Try.prog 17 [.pointer (some ⟨nb, 0, none⟩), .int .u32 q] [MarksAt nb long T] (fun r L => r = .tuple #[.int .i64 p, .bool true] ∧ L = [MarksAt nb long T]) := by
  have := mkGet_spec nb long q T
  rwa [h] at this

/-! the text is filled -/
def fiI (N b : Nat) (X Y : HProp) (s2 s4 s7 : Value) (ρ : Env) (L : List HProp) (me : Nat) : Prop := ∃ (i : Nat) (cs : List Value), i ≤ N ∧ (∀ v ∈ cs, v.oneCell' = true) ∧
  ρ = [(2, s2), (4, s4), (7, s7), (8, .slice (some ⟨b, 0, none⟩) N N), (29, .int .i64 N), (30, .int .i64 i)] ∧ L = [X, Y, own 43 1 (some ⟨b, 0, none⟩) N N cs] ∧ me = N - i
set_option maxHeartbeats 1000000 in
theorem fi_loop {post : Post} {kk : List Item} (N b : Nat) (X Y : HProp) (s2 s4 s7 : Value) (cs : List Value) (hN : N ≤ 1000) (h1 : ∀ v ∈ cs, v.oneCell' = true)
    (hK : ∀ cs', (∀ v ∈ cs', v.oneCell' = true) → TK Try.prog 4 Try.f4.ntmps post kk [(2, s2), (4, s4), (7, s7), (8, .slice (some ⟨b, 0, none⟩) N N)] [X, Y, own 43 1 (some ⟨b, 0, none⟩) N N cs']) :
    TK Try.prog 4 Try.f4.ntmps post (.code (loopAt Try.f4 0) :: kk)
      [(2, s2), (4, s4), (7, s7), (8, .slice (some ⟨b, 0, none⟩) N N), (29, .int .i64 N), (30, .int .i64 0)] [X, Y, own 43 1 (some ⟨b, 0, none⟩) N N cs] := by
  have hKH := Lib.hid hK
  clear hK
  refine SL.TK.block ?_
  refine SL.TK.loopD (fiI N b X Y s2 s4 s7) ?_ ⟨0, cs, Nat.zero_le _, h1, rfl, rfl, rfl⟩ (by first | ((repeat (first | exact SL.Sub.nil | refine SL.Sub.cons (by rfl) (by first | rfl | exact SL.int_eq (by omega)) ?_)); done) | fail) EntD.refl
  clear h1
  rintro ρ L me ⟨i, cs, hi, h1, rfl, rfl, rfl⟩ ih
  by_cases hlt : i < N
  · refine SL.TK.ownPos (e := 43) (sz := 1) (a := some ⟨b, 0, none⟩) (m := N) (by first | ((repeat (first | exact SL.Pick.head | apply SL.Pick.tail)); done) | fail) (by omega) (fun b0 ex ea e1 e2 e3 => ?_)
    have ea := Option.some.inj ea
    injection ea with ea
    subst ea
    obtain rfl : ex = [] := by
      rw [List.length_append, e1] at e2
      exact List.eq_nil_of_length_eq_zero (by omega)
    simp only [List.append_nil, Nat.mul_one] at e1 e2 ⊢
    obtain ⟨x1, hp, hx⟩ := put_at (cs := cs) (new := [.int .i32 97]) (off := i) (by simp; omega)
    have hl := put_len hp
    have h2 : ∀ v ∈ x1, v.oneCell' = true := by
      intro v hv
      rw [hx] at hv
      rcases List.mem_append.1 hv with h | h
      · rcases List.mem_append.1 h with h | h
        · exact h1 v (List.mem_of_mem_take h)
        · rw [List.mem_singleton.1 h]; rfl
      · exact h1 v (List.mem_of_mem_drop h)
    have hH := Lib.hid (And.intro hl (And.intro e1 h2))
    clear hx hl h1 h2 e1 e2 e3
    repeat' (first | (refine SL.TO.is ?_; first | (refine SL.W.quick ?_; first | refine SL.W.pass ?_ | refine SL.W.pv ?_ | refine SL.W.pv0 ?_) | (refine SL.TO.door (o := ⟨_, .store _ _ _, _, _, _, _⟩) ?_; first | refine SL.W.storeN hp ?_) | refine SL.TO.nil ?_ | (refine SL.TO.nilD ?_; simp only [SL.setB]) | refine SL.W.pass ?_ | refine SL.W.pass0 ?_ | (refine SL.W.pure ?_; first | refine SL.W.pv ?_ | refine SL.W.pv0 ?_ | refine SL.W.lenMp ?_) | (refine SL.W.loud ?_; first | refine SL.W.load ?_ | refine SL.W.loadA ?_ | refine SL.W.store ?_ | refine SL.W.storeA ?_ | (refine SL.W.box ?_; intro b) | (refine SL.W.alloc ?_; intro b) | (refine SL.W.buildSlice ?_; intro b) | (refine SL.W.append ?_; intro a cap) | refine SL.W.bytesToStr ?_ | refine SL.W.pvn (SL.PV.toIntC (by rfl) (by first | exact SL.wrap_i64 (by omega) | exact SL.wrap_u8 (by omega) | exact SL.wrap_u32 (by omega) | exact SL.wrap_u64 (by omega) | rfl)) ?_ | (refine SL.W.makeSlice ?_; intro b) | refine SL.W.lookupOk ?_ | refine SL.W.lookup ?_ | (refine SL.W.makeMap ?_; intro b) | refine SL.W.mapUpdate ?_ | (refine SL.W.mapEntry ?_; intro stamp) | refine SL.W.entryStore ?_ | (refine SL.W.range ?_; intro it) | refine SL.W.delete ?_) | (refine SL.W.guardP (fun h => ?_) (fun h => ?_) <;> (fail_if_success (have : h = trivial := rfl)) <;> (fail_if_success (have : h = not_false := rfl)) <;> first | contradiction | (exfalso; omega) | (exfalso; revert h; simp; done) | skip) | (refine SL.W.guardB (fun h => ?_) (fun h => ?_) <;> (fail_if_success (have : h = (rfl : true = true) := rfl)) <;> (fail_if_success (have : h = (rfl : false = false) := rfl)))) | (refine SL.TK.is ?_; first | refine SL.TK.seq ?_ | refine SL.TK.region ?_ | refine SL.TK.regionD SL.mixed (by simp only [SL.falses] <;> rfl) ?_ | refine SL.TK.block ?_ | refine SL.TK.inBlock ?_ | refine SL.TK.skip ?_ | refine SL.TK.scope ?_ | refine SL.TK.inScope ?_ | refine SL.TK.label ?_ | (refine SL.TK.isExit ?_; refine SL.W.exit ?_) | refine SL.W.condT ?_ | refine SL.W.condF ?_ | (refine SL.W.condP (fun h => ?_) (fun h => ?_) <;> (fail_if_success (have : h = trivial := rfl)) <;> (fail_if_success (have : h = not_false := rfl)) <;> first | contradiction | (exfalso; omega) | (exfalso; revert h; simp; done) | skip) | refine SL.W.condB (fun h => ?_) (fun h => ?_)) | (refine SL.TD.is ?_; first | (refine SL.W.dfin ?_; simp only [List.append_nil, List.cons_append, List.nil_append]) | refine SL.W.dpass ?_ | refine SL.W.dpure ?_ | refine SL.W.dload ?_ | refine SL.W.dloadA ?_ | refine SL.W.dfrz ?_ | (refine SL.W.dthaw ?_; simp only [List.append_nil, List.cons_append, List.nil_append]) | (refine SL.W.dguardP (fun h => ?_) (fun h => ?_) <;> (fail_if_success (have : h = trivial := rfl)) <;> (fail_if_success (have : h = not_false := rfl)) <;> first | contradiction | (exfalso; omega) | (exfalso; revert h; simp; done) | skip) | (refine SL.W.dguardB (fun h => ?_) (fun h => ?_) <;> (fail_if_success (have : h = (rfl : true = true) := rfl)) <;> (fail_if_success (have : h = (rfl : false = false) := rfl))) | refine SL.W.done ?_ | refine SL.W.dtwo ?_ ?_ | refine SL.W.dthree ?_ ?_ ?_))
    all_goals
      refine SL.TK.againD ih ⟨i + 1, x1, by omega, hH.out.2.2, rfl, rfl, rfl⟩ (by first | ((repeat (first | exact SL.Sub.nil | refine SL.Sub.cons (by rfl) (by first | rfl | exact SL.int_eq (by omega)) ?_)); done) | fail) ?_ (by omega)
      exact EntD.trans (EntD.of_ent (Ent.own_blk (e := 43) (sz := 1) (n := N) (cap := N) (b := b) (cs := x1) (extra := []) (by first | ((repeat (first | exact SL.Pick.head | apply SL.Pick.tail)); done) | fail) (by simp) (by rw [hH.out.1, hH.out.2.1]; omega) (by simp [hH.out.1, hH.out.2.1]) (Nat.le_refl _) Ent.refl)) (EntD.cons (by first | ((repeat (first | exact SL.Pick.head | apply SL.Pick.tail)); done) | fail) (EntD.cons (by first | ((repeat (first | exact SL.Pick.head | apply SL.Pick.tail)); done) | fail) (EntD.cons (by first | ((repeat (first | exact SL.Pick.head | apply SL.Pick.tail)); done) | fail) EntD.nil)))
  · have hin : i = N := by omega
    subst hin
    clear ih
    repeat' (first | (refine SL.TO.is ?_; first | (refine SL.W.quick ?_; first | refine SL.W.pass ?_ | refine SL.W.pv ?_ | refine SL.W.pv0 ?_) | refine SL.TO.nil ?_ | (refine SL.TO.nilD ?_; simp only [SL.setB]) | refine SL.W.pass ?_ | refine SL.W.pass0 ?_ | (refine SL.W.pure ?_; first | refine SL.W.pv ?_ | refine SL.W.pv0 ?_ | refine SL.W.lenMp ?_) | (refine SL.W.loud ?_; first | refine SL.W.load ?_ | refine SL.W.loadA ?_ | refine SL.W.store ?_ | refine SL.W.storeA ?_ | (refine SL.W.box ?_; intro b) | (refine SL.W.alloc ?_; intro b) | (refine SL.W.buildSlice ?_; intro b) | (refine SL.W.append ?_; intro a cap) | refine SL.W.bytesToStr ?_ | refine SL.W.pvn (SL.PV.toIntC (by rfl) (by first | exact SL.wrap_i64 (by omega) | exact SL.wrap_u8 (by omega) | exact SL.wrap_u32 (by omega) | exact SL.wrap_u64 (by omega) | rfl)) ?_ | (refine SL.W.makeSlice ?_; intro b) | refine SL.W.lookupOk ?_ | refine SL.W.lookup ?_ | (refine SL.W.makeMap ?_; intro b) | refine SL.W.mapUpdate ?_ | (refine SL.W.mapEntry ?_; intro stamp) | refine SL.W.entryStore ?_ | (refine SL.W.range ?_; intro it) | refine SL.W.delete ?_) | (refine SL.W.guardP (fun h => ?_) (fun h => ?_) <;> (fail_if_success (have : h = trivial := rfl)) <;> (fail_if_success (have : h = not_false := rfl)) <;> first | contradiction | (exfalso; omega) | (exfalso; revert h; simp; done) | skip) | (refine SL.W.guardB (fun h => ?_) (fun h => ?_) <;> (fail_if_success (have : h = (rfl : true = true) := rfl)) <;> (fail_if_success (have : h = (rfl : false = false) := rfl)))) | (refine SL.TK.is ?_; first | (refine SL.TK.weakD (by first | ((repeat (first | exact SL.Sub.nil | refine SL.Sub.cons (by rfl) (by first | rfl | exact SL.int_eq (by omega)) ?_)); done) | fail) EntD.refl (hKH.out cs h1)) | refine SL.TK.seq ?_ | refine SL.TK.region ?_ | refine SL.TK.regionD SL.mixed (by simp only [SL.falses] <;> rfl) ?_ | refine SL.TK.block ?_ | refine SL.TK.inBlock ?_ | refine SL.TK.skip ?_ | refine SL.TK.scope ?_ | refine SL.TK.inScope ?_ | refine SL.TK.label ?_ | (refine SL.TK.isExit ?_; refine SL.W.exit ?_) | refine SL.W.condT ?_ | refine SL.W.condF ?_ | (refine SL.W.condP (fun h => ?_) (fun h => ?_) <;> (fail_if_success (have : h = trivial := rfl)) <;> (fail_if_success (have : h = not_false := rfl)) <;> first | contradiction | (exfalso; omega) | (exfalso; revert h; simp; done) | skip) | refine SL.W.condB (fun h => ?_) (fun h => ?_)) | (refine SL.TD.is ?_; first | (refine SL.W.dfin ?_; simp only [List.append_nil, List.cons_append, List.nil_append]) | refine SL.W.dpass ?_ | refine SL.W.dpure ?_ | refine SL.W.dload ?_ | refine SL.W.dloadA ?_ | refine SL.W.dfrz ?_ | (refine SL.W.dthaw ?_; simp only [List.append_nil, List.cons_append, List.nil_append]) | (refine SL.W.dguardP (fun h => ?_) (fun h => ?_) <;> (fail_if_success (have : h = trivial := rfl)) <;> (fail_if_success (have : h = not_false := rfl)) <;> first | contradiction | (exfalso; omega) | (exfalso; revert h; simp; done) | skip) | (refine SL.W.dguardB (fun h => ?_) (fun h => ?_) <;> (fail_if_success (have : h = (rfl : true = true) := rfl)) <;> (fail_if_success (have : h = (rfl : false = false) := rfl))) | refine SL.W.done ?_ | refine SL.W.dtwo ?_ ?_ | refine SL.W.dthree ?_ ?_ ?_))
/-! the rows -/
def mkI (W : World) (p : Option Addr) (len cap nb : Nat) (ρ : Env) (L : List HProp) (me : Nat) : Prop := ∃ (i n : Nat) (x y : Int) (a' : Option Addr) (cap' : Nat) (cs : List Value), i ≤ len ∧ i ≤ 20 ∧ n ≤ 60 + 20 * i ∧ (0 ≤ x ∧ x ≤ n) ∧ (0 ≤ y ∧ y ≤ n) ∧ (∀ v ∈ cs, v.oneCell' = true) ∧
  ρ = [(8, .slice a' n cap'), (10, .pointer (some ⟨nb, 0, none⟩)), (12, .int .i64 x), (13, .int .i64 y), (72, .slice p len cap), (73, .int .i64 len), (74, .int .i64 i)] ∧ L = [SL.orig W, MarksAt nb n [(1, x), (2, y)], own 43 1 a' n cap' cs] ∧ me = 20 - i
set_option maxHeartbeats 4000000 in
theorem mk_loop {post : Post} {kk : List Item} (W : World) (p : Option Addr) (len cap nb n0 : Nat) (x0 y0 : Int) (a0 : Option Addr) (cap0 : Nat) (cs0 : List Value) (As : List Rw) (hl : As.length = len) (hm : len ≤ 9223372036854775807) (h0 : p = none → len = 0)
    (hc : Hid (∀ q, p = some q → ∀ i A, As[i]? = some A → RwOk W A ∧ ∀ j x, (rwC A)[j]? = some x → W.cell? ((q.add (i * 1)).add j) = some x))
    (h60 : n0 ≤ 60) (hx : 0 ≤ x0 ∧ x0 ≤ n0) (hy : 0 ≤ y0 ∧ y0 ≤ n0) (h1 : ∀ v ∈ cs0, v.oneCell' = true)
    (hK : TK Try.prog 4 Try.f4.ntmps post kk [] [SL.orig W]) :
    TK Try.prog 4 Try.f4.ntmps post (.code (loopAt Try.f4 1) :: kk)
      [(8, .slice a0 n0 cap0), (10, .pointer (some ⟨nb, 0, none⟩)), (12, .int .i64 x0), (13, .int .i64 y0), (72, .slice p len cap), (73, .int .i64 len), (74, .int .i64 0)] [SL.orig W, MarksAt nb n0 [(1, x0), (2, y0)], own 43 1 a0 n0 cap0 cs0] := by
  have hKH := Lib.hid hK
  clear hK
  refine SL.TK.block ?_
  refine SL.TK.loopD (mkI W p len cap nb) ?_ ⟨0, n0, x0, y0, a0, cap0, cs0, Nat.zero_le _, Nat.zero_le _, h60, hx, hy, h1, rfl, rfl, rfl⟩ (by first | ((repeat (first | exact SL.Sub.nil | refine SL.Sub.cons (by rfl) (by first | rfl | exact SL.int_eq (by omega)) ?_)); done) | fail) EntD.refl
  clear h60 hx hy h1
  rintro ρ L me ⟨i, n, x, y, a', cap', cs, hi, hi20, hn, hx, hy, h1, rfl, rfl, rfl⟩ ih
  by_cases hlt : i < len
  · obtain ⟨q, rfl⟩ : ∃ q, p = some q := by
      cases p with
      | none => have := h0 rfl; omega
      | some q => exact ⟨q, rfl⟩
    obtain ⟨A, hA⟩ : ∃ A, As[i]? = some A := ⟨_, List.getElem?_eq_getElem (by omega)⟩
    obtain ⟨hok, hcell⟩ := hc.out q rfl i A hA
    obtain ⟨a, ac, us⟩ := A
    have hcell : W.cell? (q.add (i * 1)) = some (.slice a us.length ac) := by
      have := hcell 0 _ rfl
      rwa [add_add, Nat.add_zero] at this
    have hX := hok.row
    have hcap := hok.cap
    simp only at hX hcap
    by_cases h20 : i = 20
    · clear ih hc hX hok hA h1
      repeat' (first | (refine SL.TO.is ?_; first | (refine SL.W.quick ?_; first | refine SL.W.pass ?_ | refine SL.W.pv ?_ | refine SL.W.pv0 ?_) | (refine SL.TO.door (o := ⟨_, .load _ _, _, _, _, _⟩) ?_; first | refine SL.W.loadO hcell ?_) | refine SL.TO.nil ?_ | (refine SL.TO.nilD ?_; simp only [SL.setB]) | refine SL.W.pass ?_ | refine SL.W.pass0 ?_ | (refine SL.W.pure ?_; first | refine SL.W.pv ?_ | refine SL.W.pv0 ?_ | refine SL.W.lenMp ?_) | (refine SL.W.loud ?_; first | refine SL.W.load ?_ | refine SL.W.loadA ?_ | refine SL.W.store ?_ | refine SL.W.storeA ?_ | (refine SL.W.box ?_; intro b) | (refine SL.W.alloc ?_; intro b) | (refine SL.W.buildSlice ?_; intro b) | (refine SL.W.append ?_; intro a cap) | refine SL.W.bytesToStr ?_ | refine SL.W.pvn (SL.PV.toIntC (by rfl) (by first | exact SL.wrap_i64 (by omega) | exact SL.wrap_u8 (by omega) | exact SL.wrap_u32 (by omega) | exact SL.wrap_u64 (by omega) | rfl)) ?_ | (refine SL.W.makeSlice ?_; intro b) | refine SL.W.lookupOk ?_ | refine SL.W.lookup ?_ | (refine SL.W.makeMap ?_; intro b) | refine SL.W.mapUpdate ?_ | (refine SL.W.mapEntry ?_; intro stamp) | refine SL.W.entryStore ?_ | (refine SL.W.range ?_; intro it) | refine SL.W.delete ?_) | (refine SL.W.guardP (fun h => ?_) (fun h => ?_) <;> (fail_if_success (have : h = trivial := rfl)) <;> (fail_if_success (have : h = not_false := rfl)) <;> first | contradiction | (exfalso; omega) | (exfalso; revert h; simp; done) | skip) | (refine SL.W.guardB (fun h => ?_) (fun h => ?_) <;> (fail_if_success (have : h = (rfl : true = true) := rfl)) <;> (fail_if_success (have : h = (rfl : false = false) := rfl)))) | (refine SL.TK.is ?_; first | (refine SL.TK.weakD SL.Sub.nil (EntD.cons (by first | ((repeat (first | exact SL.Pick.head | apply SL.Pick.tail)); done) | fail) EntD.nil) hKH.out) | refine SL.TK.seq ?_ | refine SL.TK.region ?_ | refine SL.TK.regionD SL.mixed (by simp only [SL.falses] <;> rfl) ?_ | refine SL.TK.block ?_ | refine SL.TK.inBlock ?_ | refine SL.TK.skip ?_ | refine SL.TK.scope ?_ | refine SL.TK.inScope ?_ | refine SL.TK.label ?_ | (refine SL.TK.isExit ?_; refine SL.W.exit ?_) | refine SL.W.condT ?_ | refine SL.W.condF ?_ | (refine SL.W.condP (fun h => ?_) (fun h => ?_) <;> (fail_if_success (have : h = trivial := rfl)) <;> (fail_if_success (have : h = not_false := rfl)) <;> first | contradiction | (exfalso; omega) | (exfalso; revert h; simp; done) | skip) | refine SL.W.condB (fun h => ?_) (fun h => ?_)) | (refine SL.TD.is ?_; first | (refine SL.W.dfin ?_; simp only [List.append_nil, List.cons_append, List.nil_append]) | refine SL.W.dpass ?_ | refine SL.W.dpure ?_ | refine SL.W.dload ?_ | refine SL.W.dloadA ?_ | refine SL.W.dfrz ?_ | (refine SL.W.dthaw ?_; simp only [List.append_nil, List.cons_append, List.nil_append]) | (refine SL.W.dguardP (fun h => ?_) (fun h => ?_) <;> (fail_if_success (have : h = trivial := rfl)) <;> (fail_if_success (have : h = not_false := rfl)) <;> first | contradiction | (exfalso; omega) | (exfalso; revert h; simp; done) | skip) | (refine SL.W.dguardB (fun h => ?_) (fun h => ?_) <;> (fail_if_success (have : h = (rfl : true = true) := rfl)) <;> (fail_if_success (have : h = (rfl : false = false) := rfl))) | refine SL.W.done ?_ | refine SL.W.dtwo ?_ ?_ | refine SL.W.dthree ?_ ?_ ?_))
    · obtain ⟨vs, hvs⟩ : ∃ vs, vs = us.take 20 := ⟨_, rfl⟩
      have hvl : vs.length = min us.length 20 := by rw [hvs, List.length_take]; omega
      have hXv : RowX (SL.orig W) a vs := by rw [hvs]; exact hX.take 20
      obtain ⟨len0, hlen0⟩ : ∃ l, l = us.length := ⟨_, rfl⟩
      rw [← hlen0] at hcell hcap hvl
      have hmin : Hid (min (len0 : Int) 20 = (vs.length : Int)) := Lib.hid (by omega)
      have hvc : vs.length ≤ ac := by omega
      have hv20 : vs.length ≤ 20 := by omega
      clear hvs hX hok hA hlen0 hc hvl
      obtain ⟨m, e, hme⟩ : ∃ m e, longR vs n = (m, e) := ⟨_, _, rfl⟩
      by_cases he : e = 0
      · subst he
        have hlu := longR_ok (by rw [hme])
        rw [hme] at hlu
        simp only at hlu
        have hap := apply_ok a ac vs a' n cap' cs m hXv (by omega) (by omega) h1 hme
        have hb := longU_bound vs n m hlu (by omega)
        obtain ⟨M, rfl⟩ : ∃ M : Nat, m = M := ⟨m.toNat, by omega⟩
        obtain ⟨x', hx'⟩ : ∃ x', x' = placeU x vs := ⟨_, rfl⟩
        obtain ⟨y', hy'⟩ : ∃ y', y' = placeU y vs := ⟨_, rfl⟩
        have hgo := mkGo_ok a ac nb n M vs [(1, x), (2, y)] [(1, x'), (2, y')] hXv (by omega) (by omega) (by simp; omega) hlu (by rw [hx', hy']; rfl)
        have hxw := placeU_within hlu hx
        have hyw := placeU_within hlu hy
        have hxy : x ≤ y → x' ≤ y' := fun h => by rw [hx', hy']; exact placeU_mono h
        have hyx : y ≤ x → y' ≤ x' := fun h => by rw [hx', hy']; exact placeU_mono h
        rw [← hx'] at hxw
        rw [← hy'] at hyw
        have hq1 := mkGet_ok nb M 1 x' [(1, x'), (2, y')] rfl
        have hq2 := mkGet_ok nb M 2 y' [(1, x'), (2, y')] rfl
        have hapH : Hid (Spec Try.prog 20 [.slice a' n cap', .slice a vs.length ac] [SL.orig W, own 43 1 a' n cap' cs] (fun r L => ∃ (b' : Option Addr) (c' : Nat) (cs' : List Value), r = .tuple #[.slice b' M c', .int .i64 0] ∧ L = [SL.orig W, own 43 1 b' M c' cs'] ∧ ∀ v ∈ cs', v.oneCell' = true)) := Lib.hid (by
          refine SL.Spec.postD hap ?_
          rintro v L ⟨m', b', c', cs', hm', _, rfl, rfl, h2⟩
          obtain rfl : M = m' := by omega
          exact ⟨_, ⟨b', c', cs', rfl, rfl, h2⟩, EntD.cons (by first | ((repeat (first | exact SL.Pick.head | apply SL.Pick.tail)); done) | fail) (EntD.cons (by first | ((repeat (first | exact SL.Pick.head | apply SL.Pick.tail)); done) | fail) EntD.nil)⟩)
        have hgoH := Lib.hid hgo
        have hq1H := Lib.hid hq1
        have hq2H := Lib.hid hq2
        have hbM : M ≤ 60 + 20 * (i + 1) := by omega
        clear hap hgo hq1 hq2 hme hlu hx' hy' h1 hXv hb
        repeat' (first | (refine SL.TO.is ?_; first | (refine SL.W.quick ?_; first | refine SL.W.pass ?_ | refine SL.W.pv ?_ | refine SL.W.pv0 ?_) | (refine SL.TO.door (o := ⟨_, .call _, _, _, _, _⟩) ?_; first | (refine SL.TO.door (o := ⟨_, .call ⟨.value (.func 20), _, _⟩, _, _, _, _⟩) ?_; first | (refine SL.W.call (hapH.out) ?_; rintro _ _ ⟨b2, c2, cs2, rfl, rfl, h2⟩; try simp only [List.cons_append, List.nil_append])) | (refine SL.TO.door (o := ⟨_, .call ⟨.value (.func 16), _, _⟩, _, _, _, _⟩) ?_; first | (refine SL.W.call (hgoH.out) ?_; rintro _ _ ⟨rfl, rfl⟩; try simp only [List.cons_append, List.nil_append])) | (refine SL.TO.door (o := ⟨_, .call ⟨.value (.func 17), _, _⟩, _, _, _, _⟩) ?_; first | (refine SL.W.call (hq1H.out) ?_; rintro _ _ ⟨rfl, rfl⟩; try simp only [List.cons_append, List.nil_append]) | (refine SL.W.call (hq2H.out) ?_; rintro _ _ ⟨rfl, rfl⟩; try simp only [List.cons_append, List.nil_append])) | (refine SL.TO.door (o := ⟨_, .call ⟨.value (.func 19), _, _⟩, _, _, _, _⟩) ?_; first | (refine SL.W.call (mkLong_spec _ _ _) ?_; rintro _ _ ⟨rfl, rfl⟩; try simp only [List.cons_append, List.nil_append]))) | (refine SL.TO.door (o := ⟨_, .load _ _, _, _, _, _⟩) ?_; first | refine SL.W.loadO hcell ?_) | (refine SL.TO.door (o := ⟨_, .slice _ _ _ _ _, _, _, _, _⟩) ?_; first | refine SL.W.pvn (SL.PV.sliceHi (hi := vs.length) (by rfl) (by rfl) hmin.out (by omega)) ?_) | refine SL.TO.nil ?_ | (refine SL.TO.nilD ?_; simp only [SL.setB]) | refine SL.W.pass ?_ | refine SL.W.pass0 ?_ | (refine SL.W.pure ?_; first | refine SL.W.pv ?_ | refine SL.W.pv0 ?_ | refine SL.W.lenMp ?_) | (refine SL.W.loud ?_; first | refine SL.W.load ?_ | refine SL.W.loadA ?_ | refine SL.W.store ?_ | refine SL.W.storeA ?_ | (refine SL.W.box ?_; intro b) | (refine SL.W.alloc ?_; intro b) | (refine SL.W.buildSlice ?_; intro b) | (refine SL.W.append ?_; intro a cap) | refine SL.W.bytesToStr ?_ | refine SL.W.pvn (SL.PV.toIntC (by rfl) (by first | exact SL.wrap_i64 (by omega) | exact SL.wrap_u8 (by omega) | exact SL.wrap_u32 (by omega) | exact SL.wrap_u64 (by omega) | rfl)) ?_ | (refine SL.W.makeSlice ?_; intro b) | refine SL.W.lookupOk ?_ | refine SL.W.lookup ?_ | (refine SL.W.makeMap ?_; intro b) | refine SL.W.mapUpdate ?_ | (refine SL.W.mapEntry ?_; intro stamp) | refine SL.W.entryStore ?_ | (refine SL.W.range ?_; intro it) | refine SL.W.delete ?_) | (refine SL.W.guardP (fun h => ?_) (fun h => ?_) <;> (fail_if_success (have : h = trivial := rfl)) <;> (fail_if_success (have : h = not_false := rfl)) <;> first | contradiction | (exfalso; omega) | (exfalso; revert h; simp; done) | skip) | (refine SL.W.guardB (fun h => ?_) (fun h => ?_) <;> (fail_if_success (have : h = (rfl : true = true) := rfl)) <;> (fail_if_success (have : h = (rfl : false = false) := rfl)))) | (refine SL.TK.is ?_; first | refine SL.TK.seq ?_ | refine SL.TK.region ?_ | refine SL.TK.regionD SL.mixed (by simp only [SL.falses] <;> rfl) ?_ | refine SL.TK.block ?_ | refine SL.TK.inBlock ?_ | refine SL.TK.skip ?_ | refine SL.TK.scope ?_ | refine SL.TK.inScope ?_ | refine SL.TK.label ?_ | (refine SL.TK.isExit ?_; refine SL.W.exit ?_) | refine SL.W.condT ?_ | refine SL.W.condF ?_ | (refine SL.W.condP (fun h => ?_) (fun h => ?_) <;> (fail_if_success (have : h = trivial := rfl)) <;> (fail_if_success (have : h = not_false := rfl)) <;> first | contradiction | (exfalso; omega) | (exfalso; revert h; simp; done) | skip) | refine SL.W.condB (fun h => ?_) (fun h => ?_)) | (refine SL.TD.is ?_; first | (refine SL.W.dfin ?_; simp only [List.append_nil, List.cons_append, List.nil_append]) | refine SL.W.dpass ?_ | refine SL.W.dpure ?_ | refine SL.W.dload ?_ | refine SL.W.dloadA ?_ | refine SL.W.dfrz ?_ | (refine SL.W.dthaw ?_; simp only [List.append_nil, List.cons_append, List.nil_append]) | (refine SL.W.dguardP (fun h => ?_) (fun h => ?_) <;> (fail_if_success (have : h = trivial := rfl)) <;> (fail_if_success (have : h = not_false := rfl)) <;> first | contradiction | (exfalso; omega) | (exfalso; revert h; simp; done) | skip) | (refine SL.W.dguardB (fun h => ?_) (fun h => ?_) <;> (fail_if_success (have : h = (rfl : true = true) := rfl)) <;> (fail_if_success (have : h = (rfl : false = false) := rfl))) | refine SL.W.done ?_ | refine SL.W.dtwo ?_ ?_ | refine SL.W.dthree ?_ ?_ ?_))
        all_goals
          refine SL.TK.againD ih ⟨i + 1, M, x', y', b2, c2, cs2, by omega, by omega, hbM, hxw, hyw, h2, rfl, rfl, rfl⟩ (by first | ((repeat (first | exact SL.Sub.nil | refine SL.Sub.cons (by rfl) (by first | rfl | exact SL.int_eq (by omega)) ?_)); done) | fail) ?_ (by omega)
          exact EntD.cons (by first | ((repeat (first | exact SL.Pick.head | apply SL.Pick.tail)); done) | fail) (EntD.cons (by first | ((repeat (first | exact SL.Pick.head | apply SL.Pick.tail)); done) | fail) (EntD.cons (by first | ((repeat (first | exact SL.Pick.head | apply SL.Pick.tail)); done) | fail) EntD.nil))
      · have hap := apply_no a ac vs a' n cap' cs hXv (by omega) (by omega) (longR_bad hme he)
        have hgo := mkGo_spec a ac nb n vs [(1, x), (2, y)] hXv (by omega) (by omega) (by simp; omega)
        rw [hme] at hap hgo
        simp only [if_neg he] at hap hgo
        have hapH := Lib.hid hap
        have hgoH := Lib.hid hgo
        have hq1H := Lib.hid (mkGet_ok nb n 1 x [(1, x), (2, y)] rfl)
        have hq2H := Lib.hid (mkGet_ok nb n 2 y [(1, x), (2, y)] rfl)
        have h1H := Lib.hid h1
        clear hap hgo hme h1 hXv
        repeat' (first | (refine SL.TO.is ?_; first | (refine SL.W.quick ?_; first | refine SL.W.pass ?_ | refine SL.W.pv ?_ | refine SL.W.pv0 ?_) | (refine SL.TO.door (o := ⟨_, .call _, _, _, _, _⟩) ?_; first | (refine SL.TO.door (o := ⟨_, .call ⟨.value (.func 20), _, _⟩, _, _, _, _⟩) ?_; first | (refine SL.W.call (hapH.out) ?_; rintro _ _ ⟨rfl, rfl⟩; try simp only [List.cons_append, List.nil_append])) | (refine SL.TO.door (o := ⟨_, .call ⟨.value (.func 16), _, _⟩, _, _, _, _⟩) ?_; first | (refine SL.W.call (hgoH.out) ?_; rintro _ _ ⟨rfl, rfl⟩; try simp only [List.cons_append, List.nil_append])) | (refine SL.TO.door (o := ⟨_, .call ⟨.value (.func 17), _, _⟩, _, _, _, _⟩) ?_; first | (refine SL.W.call (hq1H.out) ?_; rintro _ _ ⟨rfl, rfl⟩; try simp only [List.cons_append, List.nil_append]) | (refine SL.W.call (hq2H.out) ?_; rintro _ _ ⟨rfl, rfl⟩; try simp only [List.cons_append, List.nil_append])) | (refine SL.TO.door (o := ⟨_, .call ⟨.value (.func 19), _, _⟩, _, _, _, _⟩) ?_; first | (refine SL.W.call (mkLong_spec _ _ _) ?_; rintro _ _ ⟨rfl, rfl⟩; try simp only [List.cons_append, List.nil_append]))) | (refine SL.TO.door (o := ⟨_, .load _ _, _, _, _, _⟩) ?_; first | refine SL.W.loadO hcell ?_) | (refine SL.TO.door (o := ⟨_, .slice _ _ _ _ _, _, _, _, _⟩) ?_; first | refine SL.W.pvn (SL.PV.sliceHi (hi := vs.length) (by rfl) (by rfl) hmin.out (by omega)) ?_) | refine SL.TO.nil ?_ | (refine SL.TO.nilD ?_; simp only [SL.setB]) | refine SL.W.pass ?_ | refine SL.W.pass0 ?_ | (refine SL.W.pure ?_; first | refine SL.W.pv ?_ | refine SL.W.pv0 ?_ | refine SL.W.lenMp ?_) | (refine SL.W.loud ?_; first | refine SL.W.load ?_ | refine SL.W.loadA ?_ | refine SL.W.store ?_ | refine SL.W.storeA ?_ | (refine SL.W.box ?_; intro b) | (refine SL.W.alloc ?_; intro b) | (refine SL.W.buildSlice ?_; intro b) | (refine SL.W.append ?_; intro a cap) | refine SL.W.bytesToStr ?_ | refine SL.W.pvn (SL.PV.toIntC (by rfl) (by first | exact SL.wrap_i64 (by omega) | exact SL.wrap_u8 (by omega) | exact SL.wrap_u32 (by omega) | exact SL.wrap_u64 (by omega) | rfl)) ?_ | (refine SL.W.makeSlice ?_; intro b) | refine SL.W.lookupOk ?_ | refine SL.W.lookup ?_ | (refine SL.W.makeMap ?_; intro b) | refine SL.W.mapUpdate ?_ | (refine SL.W.mapEntry ?_; intro stamp) | refine SL.W.entryStore ?_ | (refine SL.W.range ?_; intro it) | refine SL.W.delete ?_) | (refine SL.W.guardP (fun h => ?_) (fun h => ?_) <;> (fail_if_success (have : h = trivial := rfl)) <;> (fail_if_success (have : h = not_false := rfl)) <;> first | contradiction | (exfalso; omega) | (exfalso; revert h; simp; done) | skip) | (refine SL.W.guardB (fun h => ?_) (fun h => ?_) <;> (fail_if_success (have : h = (rfl : true = true) := rfl)) <;> (fail_if_success (have : h = (rfl : false = false) := rfl)))) | (refine SL.TK.is ?_; first | refine SL.TK.seq ?_ | refine SL.TK.region ?_ | refine SL.TK.regionD SL.mixed (by simp only [SL.falses] <;> rfl) ?_ | refine SL.TK.block ?_ | refine SL.TK.inBlock ?_ | refine SL.TK.skip ?_ | refine SL.TK.scope ?_ | refine SL.TK.inScope ?_ | refine SL.TK.label ?_ | (refine SL.TK.isExit ?_; refine SL.W.exit ?_) | refine SL.W.condT ?_ | refine SL.W.condF ?_ | (refine SL.W.condP (fun h => ?_) (fun h => ?_) <;> (fail_if_success (have : h = trivial := rfl)) <;> (fail_if_success (have : h = not_false := rfl)) <;> first | contradiction | (exfalso; omega) | (exfalso; revert h; simp; done) | skip) | refine SL.W.condB (fun h => ?_) (fun h => ?_)) | (refine SL.TD.is ?_; first | (refine SL.W.dfin ?_; simp only [List.append_nil, List.cons_append, List.nil_append]) | refine SL.W.dpass ?_ | refine SL.W.dpure ?_ | refine SL.W.dload ?_ | refine SL.W.dloadA ?_ | refine SL.W.dfrz ?_ | (refine SL.W.dthaw ?_; simp only [List.append_nil, List.cons_append, List.nil_append]) | (refine SL.W.dguardP (fun h => ?_) (fun h => ?_) <;> (fail_if_success (have : h = trivial := rfl)) <;> (fail_if_success (have : h = not_false := rfl)) <;> first | contradiction | (exfalso; omega) | (exfalso; revert h; simp; done) | skip) | (refine SL.W.dguardB (fun h => ?_) (fun h => ?_) <;> (fail_if_success (have : h = (rfl : true = true) := rfl)) <;> (fail_if_success (have : h = (rfl : false = false) := rfl))) | refine SL.W.done ?_ | refine SL.W.dtwo ?_ ?_ | refine SL.W.dthree ?_ ?_ ?_))
        all_goals
          refine SL.TK.againD ih ⟨i + 1, n, x, y, a', cap', cs, by omega, by omega, by omega, hx, hy, h1H.out, rfl, rfl, rfl⟩ (by first | ((repeat (first | exact SL.Sub.nil | refine SL.Sub.cons (by rfl) (by first | rfl | exact SL.int_eq (by omega)) ?_)); done) | fail) ?_ (by omega)
          exact EntD.cons (by first | ((repeat (first | exact SL.Pick.head | apply SL.Pick.tail)); done) | fail) (EntD.cons (by first | ((repeat (first | exact SL.Pick.head | apply SL.Pick.tail)); done) | fail) (EntD.cons (by first | ((repeat (first | exact SL.Pick.head | apply SL.Pick.tail)); done) | fail) EntD.nil))
  · have hil : i = len := by omega
    clear ih hc h1
    repeat' (first | (refine SL.TO.is ?_; first | (refine SL.W.quick ?_; first | refine SL.W.pass ?_ | refine SL.W.pv ?_ | refine SL.W.pv0 ?_) | refine SL.TO.nil ?_ | (refine SL.TO.nilD ?_; simp only [SL.setB]) | refine SL.W.pass ?_ | refine SL.W.pass0 ?_ | (refine SL.W.pure ?_; first | refine SL.W.pv ?_ | refine SL.W.pv0 ?_ | refine SL.W.lenMp ?_) | (refine SL.W.loud ?_; first | refine SL.W.load ?_ | refine SL.W.loadA ?_ | refine SL.W.store ?_ | refine SL.W.storeA ?_ | (refine SL.W.box ?_; intro b) | (refine SL.W.alloc ?_; intro b) | (refine SL.W.buildSlice ?_; intro b) | (refine SL.W.append ?_; intro a cap) | refine SL.W.bytesToStr ?_ | refine SL.W.pvn (SL.PV.toIntC (by rfl) (by first | exact SL.wrap_i64 (by omega) | exact SL.wrap_u8 (by omega) | exact SL.wrap_u32 (by omega) | exact SL.wrap_u64 (by omega) | rfl)) ?_ | (refine SL.W.makeSlice ?_; intro b) | refine SL.W.lookupOk ?_ | refine SL.W.lookup ?_ | (refine SL.W.makeMap ?_; intro b) | refine SL.W.mapUpdate ?_ | (refine SL.W.mapEntry ?_; intro stamp) | refine SL.W.entryStore ?_ | (refine SL.W.range ?_; intro it) | refine SL.W.delete ?_) | (refine SL.W.guardP (fun h => ?_) (fun h => ?_) <;> (fail_if_success (have : h = trivial := rfl)) <;> (fail_if_success (have : h = not_false := rfl)) <;> first | contradiction | (exfalso; omega) | (exfalso; revert h; simp; done) | skip) | (refine SL.W.guardB (fun h => ?_) (fun h => ?_) <;> (fail_if_success (have : h = (rfl : true = true) := rfl)) <;> (fail_if_success (have : h = (rfl : false = false) := rfl)))) | (refine SL.TK.is ?_; first | (refine SL.TK.weakD SL.Sub.nil (EntD.cons (by first | ((repeat (first | exact SL.Pick.head | apply SL.Pick.tail)); done) | fail) EntD.nil) hKH.out) | refine SL.TK.seq ?_ | refine SL.TK.region ?_ | refine SL.TK.regionD SL.mixed (by simp only [SL.falses] <;> rfl) ?_ | refine SL.TK.block ?_ | refine SL.TK.inBlock ?_ | refine SL.TK.skip ?_ | refine SL.TK.scope ?_ | refine SL.TK.inScope ?_ | refine SL.TK.label ?_ | (refine SL.TK.isExit ?_; refine SL.W.exit ?_) | refine SL.W.condT ?_ | refine SL.W.condF ?_ | (refine SL.W.condP (fun h => ?_) (fun h => ?_) <;> (fail_if_success (have : h = trivial := rfl)) <;> (fail_if_success (have : h = not_false := rfl)) <;> first | contradiction | (exfalso; omega) | (exfalso; revert h; simp; done) | skip) | refine SL.W.condB (fun h => ?_) (fun h => ?_)) | (refine SL.TD.is ?_; first | (refine SL.W.dfin ?_; simp only [List.append_nil, List.cons_append, List.nil_append]) | refine SL.W.dpass ?_ | refine SL.W.dpure ?_ | refine SL.W.dload ?_ | refine SL.W.dloadA ?_ | refine SL.W.dfrz ?_ | (refine SL.W.dthaw ?_; simp only [List.append_nil, List.cons_append, List.nil_append]) | (refine SL.W.dguardP (fun h => ?_) (fun h => ?_) <;> (fail_if_success (have : h = trivial := rfl)) <;> (fail_if_success (have : h = not_false := rfl)) <;> first | contradiction | (exfalso; omega) | (exfalso; revert h; simp; done) | skip) | (refine SL.W.dguardB (fun h => ?_) (fun h => ?_) <;> (fail_if_success (have : h = (rfl : true = true) := rfl)) <;> (fail_if_success (have : h = (rfl : false = false) := rfl))) | refine SL.W.done ?_ | refine SL.W.dtwo ?_ ?_ | refine SL.W.dthree ?_ ?_ ?_))
theorem size8 : (Try.prog.info? 5).map (·.size) = some 1 := by kernel_rfl
set_option maxHeartbeats 4000000 in
theorem keeps_spec (W : World) (p : Option Addr) (len cap : Nat) (z x y : Int) (As : List Rw) (hz : 0 ≤ z ∧ z ≤ 255) (hx : 0 ≤ x ∧ x ≤ 255) (hy : 0 ≤ y ∧ y ≤ 255) (hl : As.length = len) (hm : len ≤ 9223372036854775807) (h0 : p = none → len = 0)
    (hc : Hid (∀ q, p = some q → ∀ i A, As[i]? = some A → RwOk W A ∧ ∀ j x, (rwC A)[j]? = some x → W.cell? ((q.add (i * 1)).add j) = some x)) :
    Spec Try.prog 4 [.int .u8 z, .agg #[.int .u8 x, .int .u8 y], .slice p len cap] [SL.orig W] (fun r L => r = .bool true ∧ L = [SL.orig W]) := by
  obtain ⟨N, hN⟩ : ∃ N : Nat, z % 61 = (N : Int) := ⟨(z % 61).toNat, by omega⟩
  have hN60 : N ≤ 60 := by omega
  have hlo := Lib.hid (show z.tmod 61 = (N : Int) by rw [Int.tmod_eq_emod_of_nonneg hz.1, hN])
  have hab : 0 ≤ x % ((N : Int) + 1) ∧ x % ((N : Int) + 1) ≤ N := ⟨Int.emod_nonneg _ (by omega), by have := Int.emod_lt_of_pos x (show (0 : Int) < N + 1 by omega); omega⟩
  have hbb : 0 ≤ y % ((N : Int) + 1) ∧ y % ((N : Int) + 1) ≤ N := ⟨Int.emod_nonneg _ (by omega), by have := Int.emod_lt_of_pos y (show (0 : Int) < N + 1 by omega); omega⟩
  have hnew := Lib.hid (mkNew_ok (N : Int) (by omega))
  have hset1 := Lib.hid fun (nb : Nat) => mkSet_ok nb N 1 _ [] [(1, x % ((N : Int) + 1))] hab rfl
  have hset2 := Lib.hid fun (nb : Nat) => mkSet_ok nb N 2 _ [(1, x % ((N : Int) + 1))] [(1, x % ((N : Int) + 1)), (2, y % ((N : Int) + 1))] hbb rfl
  have hw := Lib.hid mkAwake_spec
  have hz1 : Hid (∀ v ∈ SL.zeros (Value.cells (.int .i32 0)).toList N, v.oneCell' = true) := Lib.hid (by
    have : ∀ m, ∀ v ∈ SL.zeros (Value.cells (.int .i32 0)).toList m, v.oneCell' = true := by
      intro m
      induction m with
      | zero => simp [SL.zeros]
      | succ m ih => intro v hv; simp only [SL.zeros, List.mem_append] at hv; rcases hv with hv | hv; (simp [Value.cells] at hv; rw [hv]; rfl); exact ih v hv
    exact this N)
  have hfi := Lib.hid fun (post : Post) (kk : List Item) (tb : Nat) (X Y : HProp) (s2 s4 s7 : Value) (cs : List Value) hcs hK => fi_loop (post := post) (kk := kk) N tb X Y s2 s4 s7 cs (by omega) hcs hK
  have hmk := Lib.hid fun (post : Post) (kk : List Item) (nb : Nat) (a0 : Option Addr) (cap0 : Nat) (cs0 : List Value) h1 hK => mk_loop (post := post) (kk := kk) W p len cap nb N _ _ a0 cap0 cs0 As hl hm h0 hc hN60 hab hbb h1 hK
  clear hc hl h0 hN
  refine SL.Spec.of_TK Go.Proofs.Try.func4 rfl rfl SL.call4 rfl ?_
  repeat' (first | (refine SL.TO.is ?_; first | (refine SL.W.quick ?_; first | refine SL.W.pass ?_ | refine SL.W.pv ?_ | refine SL.W.pv0 ?_) | (refine SL.TO.door (o := ⟨_, .call _, _, _, _, _⟩) ?_; first | (refine SL.TO.door (o := ⟨_, .call ⟨.value (.func 12), _, _⟩, _, _, _, _⟩) ?_; first | (refine SL.W.call (hnew.out) ?_; rintro _ _ ⟨nb, rfl, rfl⟩; try simp only [List.cons_append, List.nil_append])) | (refine SL.TO.door (o := ⟨_, .call ⟨.value (.func 13), _, _⟩, _, _, _, _⟩) ?_; first | (refine SL.W.call (hw.out) ?_; rintro _ _ ⟨rfl, rfl⟩; try simp only [List.cons_append, List.nil_append])) | (refine SL.TO.door (o := ⟨_, .call ⟨.value (.func 14), _, _⟩, _, _, _, _⟩) ?_; first | (refine SL.W.call (hset1.out _) ?_; rintro _ _ ⟨rfl, rfl⟩; try simp only [List.cons_append, List.nil_append]) | (refine SL.W.call (hset2.out _) ?_; rintro _ _ ⟨rfl, rfl⟩; try simp only [List.cons_append, List.nil_append]))) | refine SL.TO.nil ?_ | (refine SL.TO.nilD ?_; simp only [SL.setB]) | refine SL.W.pass ?_ | refine SL.W.pass0 ?_ | (refine SL.W.pure ?_; first | (refine SL.TO.door (o := ⟨_, .binOp _ _ _ _ _, _, _, _, _⟩) ?_; first | (refine SL.TO.door (o := ⟨_, .binOp .rem _ _ _ _, _, _, _, _⟩) ?_; refine SL.W.pvn (SL.PV.rem (r := (N : Int)) (by rfl) (by rfl) (by omega) hlo.out) ?_)) | refine SL.W.pv ?_ | refine SL.W.pv0 ?_ | refine SL.W.lenMp ?_) | (refine SL.W.loud ?_; first | refine SL.W.load ?_ | refine SL.W.loadA ?_ | refine SL.W.store ?_ | refine SL.W.storeA ?_ | (refine SL.W.box ?_; intro b) | (refine SL.W.alloc ?_; intro b) | (refine SL.W.buildSlice ?_; intro b) | (refine SL.W.append ?_; intro a cap) | refine SL.W.bytesToStr ?_ | refine SL.W.pvn (SL.PV.toIntC (by rfl) (by first | exact SL.wrap_i64 (by omega) | exact SL.wrap_u8 (by omega) | exact SL.wrap_u32 (by omega) | exact SL.wrap_u64 (by omega) | rfl)) ?_ | (refine SL.W.makeSlice ?_; intro b) | refine SL.W.lookupOk ?_ | refine SL.W.lookup ?_ | (refine SL.W.makeMap ?_; intro b) | refine SL.W.mapUpdate ?_ | (refine SL.W.mapEntry ?_; intro stamp) | refine SL.W.entryStore ?_ | (refine SL.W.range ?_; intro it) | refine SL.W.delete ?_) | (refine SL.W.guardP (fun h => ?_) (fun h => ?_) <;> (fail_if_success (have : h = trivial := rfl)) <;> (fail_if_success (have : h = not_false := rfl)) <;> first | contradiction | (exfalso; omega) | (exfalso; revert h; simp; done) | skip) | (refine SL.W.guardB (fun h => ?_) (fun h => ?_) <;> (fail_if_success (have : h = (rfl : true = true) := rfl)) <;> (fail_if_success (have : h = (rfl : false = false) := rfl)))) | (refine SL.TK.lp ?_; first | (refine SL.W.loop (hfi.out _ _ _ (SL.orig W) (SL.blk _ 40 [.int .u8 x, .int .u8 y]) _ _ _ _ hz1.out ?_); intro cs1 hcs1) | refine SL.W.loop (hmk.out _ _ _ _ _ _ (by assumption) ?_)) | (refine SL.TK.is ?_; first | refine SL.TK.seq ?_ | refine SL.TK.region ?_ | refine SL.TK.regionD SL.mixed (by simp only [SL.falses] <;> rfl) ?_ | refine SL.TK.block ?_ | refine SL.TK.inBlock ?_ | refine SL.TK.skip ?_ | refine SL.TK.scope ?_ | refine SL.TK.inScope ?_ | refine SL.TK.label ?_ | (refine SL.TK.isExit ?_; refine SL.W.exit ?_) | refine SL.W.condT ?_ | refine SL.W.condF ?_ | (refine SL.W.condP (fun h => ?_) (fun h => ?_) <;> (fail_if_success (have : h = trivial := rfl)) <;> (fail_if_success (have : h = not_false := rfl)) <;> first | contradiction | (exfalso; omega) | (exfalso; revert h; simp; done) | skip) | refine SL.W.condB (fun h => ?_) (fun h => ?_)) | (refine SL.TD.is ?_; first | refine SL.W.dpure (hv := PV.indexArr Try.underlying40 size8 (by omega) (by rfl) (by rfl) (i' := 0) rfl (by omega) (by (try simp only [Nat.zero_add, Nat.add_zero, Nat.reduceAdd, Nat.reduceMul, Nat.mul_one]) <;> rfl)) ?_ | refine SL.W.dpure (hv := PV.indexArr Try.underlying40 size8 (by omega) (by rfl) (by rfl) (i' := 1) rfl (by omega) (by (try simp only [Nat.zero_add, Nat.add_zero, Nat.reduceAdd, Nat.reduceMul, Nat.mul_one]) <;> rfl)) ?_ | (refine SL.W.dfin ?_; simp only [List.append_nil, List.cons_append, List.nil_append]) | refine SL.W.dpass ?_ | refine SL.W.dpure ?_ | refine SL.W.dload ?_ | refine SL.W.dloadA ?_ | refine SL.W.dfrz ?_ | (refine SL.W.dthaw ?_; simp only [List.append_nil, List.cons_append, List.nil_append]) | (refine SL.W.dguardP (fun h => ?_) (fun h => ?_) <;> (fail_if_success (have : h = trivial := rfl)) <;> (fail_if_success (have : h = not_false := rfl)) <;> first | contradiction | (exfalso; omega) | (exfalso; revert h; simp; done) | skip) | (refine SL.W.dguardB (fun h => ?_) (fun h => ?_) <;> (fail_if_success (have : h = (rfl : true = true) := rfl)) <;> (fail_if_success (have : h = (rfl : false = false) := rfl))) | refine SL.W.done ?_ | refine SL.W.dtwo ?_ ?_ | refine SL.W.dthree ?_ ?_ ?_))
  all_goals exact SL.TK.retD Try.func4 (SL.Res.one rfl (by rfl)) ⟨rfl, rfl⟩ (EntD.cons (by first | ((repeat (first | exact SL.Pick.head | apply SL.Pick.tail)); done) | fail) EntD.nil)
end SL

namespace Go.Proofs.Ytpnlenpglmffdaa.markKeeps
open Go.ChangeShapes Go.WideShapes Go.ChangeAt Go.RowKit

theorem own : ownKnob Try.prog.godebug = none := by kernel_rfl
theorem laid : laidOutB Try.prog = true := by kernel_rfl

theorem contract (H : Type) (enc : TypeId × Value → H) (W : World) (base : Nat) (args : Array Value) (ds gs : List (DataW H)) (before : List MemPlace)
    (hval : ∀ (j : Nat) t v, Try.f4.params[j]? = some t → args[j]? = some v → Value.okWide Try.prog W .any base t v)
    (hW : DataW.Whole enc Try.prog Try.f4.params.toList Rows.markKeepsSpec.vars false W args.toList ds gs before) :
    Calls Try.prog 4 args W fun e W' => ∃ v, e = .returned v ∧ Rows.markKeepsSpec.post enc Try.prog Try.f4 false true false false W args v W' := by
  have hW' := hW
  obtain ⟨p, q, hA0, hV, rfl, hfz, hnd⟩ := hW
  have hA : DataW.TrodAll enc Try.prog W 0 (fun _ => true) true Try.f4.params.toList args.toList ds p := hA0
  rw [Try.params4] at hA hval
  obtain ⟨v0, vs0, d0, ds0, p0, q0, hargs, rfl, rfl, h0, r0⟩ := trodAll_cons hA
  obtain ⟨v1, vs1, d1, ds1, p1, q1, rfl, rfl, rfl, h1, r1⟩ := trodAll_cons r0
  obtain ⟨v2, vs2, d2, ds2, p2, q2, rfl, rfl, rfl, h2, r2⟩ := trodAll_cons r1
  obtain ⟨rfl, rfl, rfl⟩ := trodAll_nil r2
  obtain rfl : args = #[v0, v1, v2] := by cases args; simp_all
  obtain ⟨rfl, rfl⟩ := trodVars_none hV
  refine SL.law_calls (ds := [d0, d1, d2]) (gs := []) laid (by kernel_rfl) rfl rfl rfl (by kernel_rfl) hW' ?_
  obtain ⟨z, rfl, _, _, hz⟩ := open_int Try.underlying5 (hval 0 5 v0 rfl rfl) h0
  obtain ⟨x, y, rfl, hx, hy⟩ := SL.two_in (hval 1 40 v1 rfl rfl) h1
  obtain ⟨p, cap, As, rfl, hc, hm, hn, hcell⟩ := SL.rows_in Try.underlying41 (by kernel_rfl) SL.rwC (SL.RwOk W) ⟨none, 0, []⟩ (fun es h => SL.rw_of h) (hval 2 41 v2 rfl rfl) h2
  exact SL.keeps_spec W p As.length cap z x y As (SL.u8_of hz) hx hy rfl (Nat.le_trans hc (Nat.le_trans hm (by decide +kernel))) (fun h => by rw [hn h]; rfl) (Lib.hid hcell)

set_option maxRecDepth 100000 in
theorem lifted (os : Os) (started : os.Started) (H : Type) (enc : TypeId × Value → H) :
    ReturnsInHanded {} Try.checked os 4 .any (Rows.markKeepsSpec.pre6 enc Try.prog Try.f4 [] false) (Rows.markKeepsSpec.post enc Try.prog Try.f4 false true false false) := by
  refine returnsInHanded_of_change own started (by kernel_rfl) Try.func4
    (ChangeSpec.witness6 false ⟨#[], #[.int .u8 0, .agg #[.int .u8 0, .int .u8 0], .slice none 0 0], []⟩ 8 (by kernel_rfl) (by kernel_rfl) (by kernel_rfl) (by kernel_rfl)) ?_
  intro W base args ds gs before hval hW _ _
  exact contract H enc W base args ds gs before hval hW

theorem proved : Rows.MarkKeepsSaid :=
  OpenClaim.holds_of_wide 4 Try.f4 rfl rfl rfl rfl rfl rfl rfl ⟨rfl, rfl, rfl, rfl, rfl⟩ rfl rfl rfl rfl rfl (by kernel_rfl) Try.func4 (by kernel_rfl)
    (of_decide_eq_true (by kernel_rfl)) (by unfold Func.isWrapper; first | (rw [if_pos (by decide +kernel)]; kernel_rfl) | (rw [if_neg (by decide +kernel)]; exact ⟨rfl, rfl⟩))
    (fun os started H enc _ => lifted os started H enc)
end Go.Proofs.Ytpnlenpglmffdaa.markKeeps
