/-
  The given statement 'CoreComes': if all that is sent comes, all is committed.
  Conditions: none beyond those of the given statement.
-/
import Derived.Test.YtjnlkljmaiddnaaCo25
import Derived.Test.YtjnlkljmaiddnaaCo21
import Derived.Test.YtjnlkljmaiddnaaRows
import Derived.LaidEql
set_option linter.unusedVariables false
set_option linter.unusedSimpArgs false
set_option maxRecDepth 10000

namespace SL
open Go Go.Proofs Go.RowKit Go.ChangeShapes Go.WideShapes Go.ChangeAt Go.WideElems
theorem wf_u8 {n : Int} (h : (Lit.int .u8 n).wf = true) : 0 ≤ n ∧ n ≤ 255 := by
  simpa [Lit.wf, IntKind.min, IntKind.max, IntKind.signed, IntKind.bits] using h
theorem wf_u64 {n : Int} (h : (Lit.int .u64 n).wf = true) : 0 ≤ n ∧ n ≤ 18446744073709551615 := by
  simpa [Lit.wf, IntKind.min, IntKind.max, IntKind.signed, IntKind.bits] using h
section
variable {n v p K N : Nat} {f : Nat → Cs} {bag : List (Nat × Mg)}
theorem Ph.more (h : Ph n v p K N f bag) {K' : Nat} (hk : K ≤ K') : Ph n v p K' N f bag := ⟨h.1, h.2.1, Nat.le_trans h.2.2.1 hk, h.2.2.2⟩
theorem Ph.prop (h : Ph n v p K N f bag) (hN : N < 64) (k : Nat) : Ph n v p (K + 14) (N + 1) (propR n p f bag (enN k)).1 (propR n p f bag (enN k)).2 := by
  obtain ⟨h1, h2, h3, h4⟩ := h
  have hn7 := h1.n7
  refine ⟨(prop_inv h1 (by simp [enN])).1, prop_h h1 h2 (by omega) _, ?_, ?_⟩
  · unfold propR
    rw [if_pos (by omega)]
    dsimp only
    rw [wt_app]
    have := wt_all (toAll n p ⟨4, (f p).view, 0, ((f p).op + 1 : Nat), (goesR (addE (f p) (enN k))).commit, (goesR (addE (f p) (enN k))).floor, 0, enN k⟩)
    have := toAll_len n p ⟨4, (f p).view, 0, ((f p).op + 1 : Nat), (goesR (addE (f p) (enN k))).commit, (goesR (addE (f p) (enN k))).floor, 0, enN k⟩
    omega
  · unfold propR
    rw [if_pos (by omega)]
    show (up f p _ p).es.length = _
    rw [up_same]
    show (addE (f p) (enN k)).es.length = _
    rw [addE_len, h4]
theorem Ph.beat (h : Ph n v p K N f bag) : Ph n v p (K + 14) N (beatG n p f bag).1 (beatG n p f bag).2 := by
  obtain ⟨h1, h2, h3, h4⟩ := h
  have hn7 := h1.n7
  have hb := beat_h h1 h2
  refine ⟨(beat_inv h1).1, hb.1, ?_, by rw [hb.2]; exact h4⟩
  unfold beatG
  dsimp only
  rw [wt_app]
  have := wt_all (toAll n p ⟨6, (f p).view, 0, (f p).op, (goesR (beatR (f p) ((f p).commit / 8 * 8))).commit, (goesR (beatR (f p) ((f p).commit / 8 * 8))).floor, 0, e0⟩)
  have := toAll_len n p ⟨6, (f p).view, 0, (f p).op, (goesR (beatR (f p) ((f p).commit / 8 * 8))).commit, (goesR (beatR (f p) ((f p).commit / 8 * 8))).floor, 0, e0⟩
  omega
theorem toAll_mem {n fr t : Nat} (ht : t < n) (htp : ¬ t = fr) (m : Mg) : (t, m) ∈ toAll n fr m := by
  simp only [toAll, List.mem_map, List.mem_filter, List.mem_range]
  exact ⟨t, ⟨ht, by simpa using htp⟩, rfl⟩
/-- the first beat, all at rest before it -/
theorem beat_a (h : Ph n v p K N f []) : AInv n p (beatG n p f []).1 (beatG n p f []).2 N := by
  obtain ⟨h1, h2, h3, h4⟩ := h
  have hp := h1.pn
  obtain ⟨q1, q2, q3⟩ := quiet h1 h2
  obtain ⟨hG2, hg⟩ := beat_inv h1
  have hb := beat_h h1 h2
  have hlen : ∀ t, t < n → ((beatG n p f []).1 t).es.length = N := fun t ht => by
    unfold beatG
    show (up f p _ t).es.length = N
    by_cases e : t = p
    · rw [e, up_same]; exact h4
    · rw [up_other e, q1 t ht]; exact h4
  have hcom : ((beatG n p f []).1 p).commit = N := by
    have a := hg.com p hp
    have b := (hG2.fl0 p hp).2.2
    rw [hlen p hp] at b
    omega
  refine ⟨hlen, hcom, fun t ht htp => .inr ?_⟩
  rw [hb.2] at hcom
  unfold beatG
  exact ⟨_, List.mem_append_right _ (toAll_mem ht htp _), rfl, rfl, by dsimp only; omega⟩
/-- the second beat -/
theorem beat_b (h : Ph n v p K N f []) (hc : ∀ t, t < n → (f t).commit = N) : BInv n p (beatG n p f []).1 (beatG n p f []).2 N := by
  obtain ⟨h1, h2, h3, h4⟩ := h
  have hp := h1.pn
  have hn7 := h1.n7
  have hd7 := h1.don7
  obtain ⟨q1, q2, q3⟩ := quiet h1 h2
  obtain ⟨hG2, hg⟩ := beat_inv h1
  have hb := beat_h h1 h2
  have hlen : ∀ t, t < n → ((beatG n p f []).1 t).es.length = N := fun t ht => by
    unfold beatG
    show (up f p _ t).es.length = N
    by_cases e : t = p
    · rw [e, up_same]; exact h4
    · rw [up_other e, q1 t ht]; exact h4
  refine ⟨hlen, fun t ht => ?_, ?_, fun t ht htp => .inr (.inr ?_)⟩
  · have a := hg.com t ht
    have b := (hG2.fl0 t ht).2.2
    rw [hlen t ht] at b
    have := hc t ht
    omega
  · rw [hb.2]
    show (N : Int) / 8 * 8 ≤ nat_ ((f p).dones.set (f p).me (max (nat_ (f p).dones (f p).me) ((f p).commit / 8 * 8))) p
    rw [h1.me p hp, nat_set_of (by omega), if_pos rfl, hc p hp]
    omega
  · unfold beatG
    exact ⟨_, List.mem_append_right _ (toAll_mem ht htp _), rfl, rfl⟩
/-- at the end -/
theorem last_floor (h : Ph n v p K N f []) (hb : BInv n p f [] N) : (f p).floor = (N : Int) / 8 * 8 := by
  obtain ⟨h1, h2, h3, h4⟩ := h
  have hp := h1.pn
  have hn7 := h1.n7
  have hd7 := h1.don7
  have hn1 := h1.n1
  have hk : (N : Int) / 8 * 8 ≤ kth n (f p).dones := by
    rw [le_kth hn1 (by omega), count_take (by omega), List.countP_eq_length.2 (fun i hi => ?_)]
    · simp; omega
    · have hi := List.mem_range.1 hi
      by_cases e : i = p
      · rw [e]; simpa using hb.own
      · rcases hb.all i hi e with a | ⟨x, hx, _⟩ | ⟨x, hx, _⟩
        · simpa using a
        · simp at hx
        · simp at hx
  have := h2.fset
  have hf := h2.fx
  have := hb.com p hp
  rw [h4] at hf
  omega
/-- a beat, and all that comes of it -/
theorem beat_call (b7 gb : Nat) (ps : Nat → Nat) (h : Ph n v p K N f []) (hk : K ≤ 90000) (I : (Nat → Cs) → List (Nat × Mg) → Prop) (h0 : I (beatG n p f []).1 (beatG n p f []).2)
    (hS : ∀ f t m rest, GInv n v p f ((t, m) :: rest) → HInv n p f ((t, m) :: rest) → I f ((t, m) :: rest) → I (comeR p f rest t m).1 (comeR p f rest t m).2) :
    ∃ f2 bag2, Spec Try.prog 38 [.pointer (some ⟨gb, 0, none⟩), .agg #[.int .i64 4, .int .u16 0]] [GroupAt gb (lsF n ps f) []] (fun r L => r = .bool true ∧ L = [GroupAt gb (lsF n ps f2) bag2]) ∧
      Spec Try.prog 41 [.pointer (some ⟨b7, 0, none⟩)] [SL.blk b7 67 [.pointer (some ⟨gb, 0, none⟩)], GroupAt gb (lsF n ps f2) bag2]
      (fun r L => r = .bool true ∧ ∃ f', (Ph n v p (K + 14) N f' [] ∧ I f' []) ∧ L = [SL.blk b7 67 [.pointer (some ⟨gb, 0, none⟩)], GroupAt gb (lsF n ps f') []]) := by
  have hd := does_spec gb ps h.1 (by simp) 4 0 (by omega)
  have hs := settle_spec b7 gb ps (fun f b => Ph n v p (K + 14) N f b ∧ I f b) (fun f bag h => ⟨h.1.1, h.1.2.1, by have := h.1.2.2.1; omega⟩) (fun f t m rest h => ⟨h.1.come, hS f t m rest h.1.1 h.1.2.1 h.2⟩) ⟨h.beat, h0⟩
  simp only [List.nil_append] at hs
  have hR : doesR n p f [] 4 0 = beatG n p f [] := rfl
  rw [hR] at hd
  exact ⟨_, _, hd, hs⟩
end
attribute [local irreducible] SL.TK SL.TO SL.TD SL.PV SL.Pick SL.Frm SL.Ent SL.Sub SL.EvAll SL.seps SL.sep SL.Cut SL.PutAt SL.blk SL.EvP SL.Fill SL.Src SL.EntD SL.own SL.ex SL.fact SL.orig
def cmI (b7 gb n v p N : Nat) (ps : Nat → Nat) (ρ : Env) (L : List HProp) (me : Nat) : Prop := ∃ (i : Nat) (f : Nat → Cs) (bag : List (Nat × Mg)), i ≤ N ∧ Ph n v p (14 * i) i f bag ∧
  ρ = [(7, .pointer (some ⟨b7, 0, none⟩)), (8, .func (.func 41) #[] #[.pointer (some ⟨b7, 0, none⟩)]), (9, .int .i64 N), (30, .int .i64 N), (31, .int .i64 i)] ∧
  L = [SL.blk b7 67 [.pointer (some ⟨gb, 0, none⟩)], GroupAt gb (lsF n ps f) bag] ∧ me = N - i
def cmJ (b7 gb n v p N : Nat) (ps : Nat → Nat) (ρ : Env) (L : List HProp) (me : Nat) : Prop := ∃ (j : Nat) (f : Nat → Cs) (bag : List (Nat × Mg)), j ≤ 2 ∧ Ph n v p (2000 + 14 * j) N f bag ∧ (1 ≤ j → bag = [] ∧ ∀ t, t < n → (f t).commit = N) ∧ (2 ≤ j → BInv n p f bag N) ∧
  ρ = [(7, .pointer (some ⟨b7, 0, none⟩)), (8, .func (.func 41) #[] #[.pointer (some ⟨b7, 0, none⟩)]), (9, .int .i64 N), (51, .int .i64 j)] ∧
  L = [SL.blk b7 67 [.pointer (some ⟨gb, 0, none⟩)], GroupAt gb (lsF n ps f) bag] ∧ me = 2 - j
def cmK (b7 lp lc n N : Nat) (L0 : List HProp) (ρ : Env) (L : List HProp) (me : Nat) : Prop := ∃ k : Nat, k ≤ n ∧
  ρ = [(7, .pointer (some ⟨b7, 0, none⟩)), (9, .int .i64 N), (71, .slice (some ⟨lp, 0, none⟩) n lc), (72, .int .i64 n), (73, .int .i64 k)] ∧ L = L0 ∧ me = n - k
set_option maxHeartbeats 8000000 in
theorem comes_spec (z v many : Nat) (hz : z ≤ 255) (hv : v < 18446744073709551616) (hmany : many ≤ 255) :
    Spec Try.prog 10 [.int .u8 z, .int .u64 v, .int .u8 many] [] (fun r L => r = .bool true ∧ L = []) := by
  have haw := Lib.hid awake_spec
  obtain ⟨n, hn⟩ : ∃ n, n = 1 + 2 * (z % 4) := ⟨_, rfl⟩
  have e17 : Value.int .i64 (1 + 2 * ((z : Int) % 4)) = .int .i64 (n : Int) := by rw [hn]; simp
  have hn1 : 1 ≤ n := by omega
  have hn7 : n ≤ 7 := by omega
  obtain ⟨N, hN⟩ : ∃ N, N = many % 61 := ⟨_, rfl⟩
  have e29 : Value.int .i64 ((many : Int) % 61) = .int .i64 (N : Int) := by rw [hN]; simp
  have hN60 : N ≤ 60 := by omega
  have hbg := Lib.hid (begun_spec n v hn1 hn7 (by omega))
  have hbi := begin_inv (n := n) hn1 hn7 hv
  have hbh := begin_h n v hn1 hn7
  obtain ⟨p, hpe⟩ : ∃ p, p = v % n := ⟨_, rfl⟩
  rw [← hpe] at hbi hbh
  have hP0 : Hid (Ph n v p (14 * 0) 0 (fun j => c0 j n v) []) := Lib.hid ⟨hbi, hbh, by simp [wt], by simp [c0]⟩
  clear hn hpe hN hbi hbh
  refine SL.Spec.of_TK Go.Proofs.Try.func10 rfl rfl SL.call10 rfl ?_
  repeat' (first | (refine SL.TO.is ?_; first | (refine SL.TO.door (o := ⟨_, .alloc _, _, _, _, _⟩) ?_; refine SL.W.alloc ?_; intro b7) | refine SL.TO.slot (d := 17) (by rfl) e17 ?_ | refine SL.TO.slot (d := 29) (by rfl) e29 ?_ | (refine SL.W.quick ?_; first | refine SL.W.pass ?_ | refine SL.W.pv ?_ | refine SL.W.pv0 ?_) | (refine SL.TO.door (o := ⟨_, .call _, _, _, _, _⟩) ?_; first | (refine SL.TO.door (o := ⟨_, .call ⟨.value (.func 35), _, _⟩, _, _, _, _⟩) ?_; first | ((refine SL.W.call (hbg.out) ?_; rintro _ _ ⟨gb, l0, rfl, hl0, hml, rfl⟩; try simp only [List.cons_append, List.nil_append]); obtain ⟨ps, rfl⟩ := lsF_of hl0 hml)) | (refine SL.TO.door (o := ⟨_, .call ⟨.value (.func 36), _, _⟩, _, _, _, _⟩) ?_; first | (refine SL.W.call (haw.out) ?_; rintro _ _ ⟨rfl, rfl⟩; try simp only [List.cons_append, List.nil_append]))) | refine SL.TO.nil ?_ | (refine SL.TO.nilD ?_; simp only [SL.setB]) | refine SL.W.pass ?_ | refine SL.W.pass0 ?_ | (refine SL.W.pure ?_; first | refine SL.W.pv ?_ | refine SL.W.pv0 ?_) | (refine SL.W.loud ?_; first | refine SL.W.load ?_ | refine SL.W.loadA ?_ | refine SL.W.store ?_ | refine SL.W.storeA ?_ | (refine SL.W.box ?_; intro b) | (refine SL.W.alloc ?_; intro b) | (refine SL.W.buildSlice ?_; intro b) | (refine SL.W.append ?_; intro a cap) | refine SL.W.bytesToStr ?_ | refine SL.W.pvn (SL.PV.toIntC (by rfl) (by first | exact SL.wrap_i64 (by omega) | exact SL.wrap_u8 (by omega) | exact SL.wrap_u32 (by omega) | exact SL.wrap_u64 (by omega) | rfl)) ?_ | (refine SL.W.makeSlice ?_; intro b)) | (refine SL.W.guardP (fun h => ?_) (fun h => ?_) <;> (fail_if_success (have : h = trivial := rfl)) <;> (fail_if_success (have : h = not_false := rfl)) <;> first | contradiction | (exfalso; omega) | (exfalso; revert h; simp; done) | skip) | (refine SL.W.guardB (fun h => ?_) (fun h => ?_) <;> (fail_if_success (have : h = (rfl : true = true) := rfl)) <;> (fail_if_success (have : h = (rfl : false = false) := rfl)))) | (refine SL.TK.bk ?_; first | (refine SL.TK.bk (i := 0) ?_; refine SL.TK.block ?_; refine SL.TK.loopD (cmI b7 gb n v p N ps) ?_ ⟨0, _, _, Nat.zero_le _, hP0.out, rfl, rfl, rfl⟩ (by first | ((repeat (first | exact SL.Sub.nil | refine SL.Sub.cons (by rfl) (by first | rfl | exact SL.int_eq (by omega)) ?_)); done) | fail) (EntD.cons (by first | ((repeat (first | exact SL.Pick.head | apply SL.Pick.tail)); done) | fail) (EntD.cons (by first | ((repeat (first | exact SL.Pick.head | apply SL.Pick.tail)); done) | fail) EntD.nil)))) | (refine SL.TK.is ?_; first | refine SL.TK.seq ?_ | refine SL.TK.region ?_ | refine SL.TK.regionD SL.mixed (by simp only [SL.falses] <;> rfl) ?_ | refine SL.TK.block ?_ | refine SL.TK.inBlock ?_ | refine SL.TK.skip ?_ | refine SL.TK.scope ?_ | refine SL.TK.inScope ?_ | refine SL.TK.label ?_ | (refine SL.TK.isExit ?_; refine SL.W.exit ?_) | refine SL.W.condT ?_ | refine SL.W.condF ?_ | (refine SL.W.condP (fun h => ?_) (fun h => ?_) <;> (fail_if_success (have : h = trivial := rfl)) <;> (fail_if_success (have : h = not_false := rfl)) <;> first | contradiction | (exfalso; omega) | (exfalso; revert h; simp; done) | skip) | refine SL.W.condB (fun h => ?_) (fun h => ?_)) | (refine SL.TD.is ?_; first | (refine SL.W.dfin ?_; simp only [List.append_nil, List.cons_append, List.nil_append]) | refine SL.W.dpass ?_ | refine SL.W.dpure ?_ | refine SL.W.dload ?_ | refine SL.W.dloadA ?_ | refine SL.W.dfrz ?_ | (refine SL.W.dthaw ?_; simp only [List.append_nil, List.cons_append, List.nil_append]) | (refine SL.W.dguardP (fun h => ?_) (fun h => ?_) <;> (fail_if_success (have : h = trivial := rfl)) <;> (fail_if_success (have : h = not_false := rfl)) <;> first | contradiction | (exfalso; omega) | (exfalso; revert h; simp; done) | skip) | (refine SL.W.dguardB (fun h => ?_) (fun h => ?_) <;> (fail_if_success (have : h = (rfl : true = true) := rfl)) <;> (fail_if_success (have : h = (rfl : false = false) := rfl))) | refine SL.W.done ?_ | refine SL.W.dtwo ?_ ?_ | refine SL.W.dthree ?_ ?_ ?_))
  clear hl0 hml hbg haw hP0
  rintro ρ L me ⟨i, f, bag, hi, hPh, rfl, rfl, rfl⟩ ih
  by_cases hlt : i < N
  · have e36 : Value.int .u16 (IntKind.u16.wrap (i : Int)) = .int .u16 (i : Int) := by
      have : IntKind.u16.wrap (i : Int) = i := by show (i : Int) % 65536 = i; omega
      rw [this]
    have hdo := does_spec gb ps hPh.1 (by have := wt_len bag; have := hPh.2.2.1; omega) 0 i (by omega)
    have hdR : doesR n p f bag 0 i = propR n p f bag (enN i) := rfl
    rw [hdR] at hdo
    have hPn := hPh.prop (by omega) i
    obtain ⟨R, hR⟩ : ∃ R, R = propR n p f bag (enN i) := ⟨_, rfl⟩
    rw [← hR] at hdo hPn
    obtain ⟨f2, bag2⟩ := R
    simp only at hdo hPn
    have hst := settle_spec b7 gb ps (Ph n v p (14 * i + 14) (i + 1)) (fun f bag h => ⟨h.1, h.2.1, by have := h.2.2.1; omega⟩) (fun f t m rest h => h.come) hPn
    simp only [List.nil_append] at hst
    have hst := Lib.hid hst
    have hdo := Lib.hid hdo
    have hPn := Lib.hid hPn
    clear hR hdR hPh
    repeat' (first | (refine SL.TO.is ?_; first | refine SL.TO.slot (d := 36) (by rfl) e36 ?_ | (refine SL.W.quick ?_; first | refine SL.W.pass ?_ | refine SL.W.pv ?_ | refine SL.W.pv0 ?_) | (refine SL.TO.door (o := ⟨_, .call _, _, _, _, _⟩) ?_; first | (refine SL.TO.door (o := ⟨_, .call ⟨.value (.func 38), _, _⟩, _, _, _, _⟩) ?_; first | (refine SL.W.call (hdo.out) ?_; rintro _ _ ⟨rfl, rfl⟩; try simp only [List.cons_append, List.nil_append])) | (refine SL.TO.door (o := ⟨_, .call ⟨.value (.tmp _), _, _⟩, _, _, _, _⟩) ?_; first | (refine SL.TO.callVal (cap := [.pointer (some ⟨b7, 0, none⟩)]) hst.out (by rfl) (by rfl) rfl (by first | ((repeat (first | exact SL.EvAll.nil | (apply SL.EvAll.cons; rfl))); done) | fail) (by rfl) (by first | ((repeat (first | exact SL.Frm.nil | exact SL.Frm.refl | (apply SL.Frm.cons; repeat (first | exact SL.Pick.head | apply SL.Pick.tail)))); done) | fail) ?_; rintro _ _ ⟨rfl, f3, hP3, rfl⟩; try simp only [List.cons_append, List.nil_append]))) | refine SL.TO.nil ?_ | (refine SL.TO.nilD ?_; simp only [SL.setB]) | refine SL.W.pass ?_ | refine SL.W.pass0 ?_ | (refine SL.W.pure ?_; first | refine SL.W.pv ?_ | refine SL.W.pv0 ?_) | (refine SL.W.loud ?_; first | refine SL.W.load ?_ | refine SL.W.loadA ?_ | refine SL.W.store ?_ | refine SL.W.storeA ?_ | (refine SL.W.box ?_; intro b) | (refine SL.W.alloc ?_; intro b) | (refine SL.W.buildSlice ?_; intro b) | (refine SL.W.append ?_; intro a cap) | refine SL.W.bytesToStr ?_ | refine SL.W.pvn (SL.PV.toIntC (by rfl) (by first | exact SL.wrap_i64 (by omega) | exact SL.wrap_u8 (by omega) | exact SL.wrap_u32 (by omega) | exact SL.wrap_u64 (by omega) | rfl)) ?_ | (refine SL.W.makeSlice ?_; intro b)) | (refine SL.W.guardP (fun h => ?_) (fun h => ?_) <;> (fail_if_success (have : h = trivial := rfl)) <;> (fail_if_success (have : h = not_false := rfl)) <;> first | contradiction | (exfalso; omega) | (exfalso; revert h; simp; done) | skip) | (refine SL.W.guardB (fun h => ?_) (fun h => ?_) <;> (fail_if_success (have : h = (rfl : true = true) := rfl)) <;> (fail_if_success (have : h = (rfl : false = false) := rfl)))) | (refine SL.TK.is ?_; first | refine SL.TK.seq ?_ | refine SL.TK.region ?_ | refine SL.TK.regionD SL.mixed (by simp only [SL.falses] <;> rfl) ?_ | refine SL.TK.block ?_ | refine SL.TK.inBlock ?_ | refine SL.TK.skip ?_ | refine SL.TK.scope ?_ | refine SL.TK.inScope ?_ | refine SL.TK.label ?_ | (refine SL.TK.isExit ?_; refine SL.W.exit ?_) | refine SL.W.condT ?_ | refine SL.W.condF ?_ | (refine SL.W.condP (fun h => ?_) (fun h => ?_) <;> (fail_if_success (have : h = trivial := rfl)) <;> (fail_if_success (have : h = not_false := rfl)) <;> first | contradiction | (exfalso; omega) | (exfalso; revert h; simp; done) | skip) | refine SL.W.condB (fun h => ?_) (fun h => ?_)) | (refine SL.TD.is ?_; first | (refine SL.W.dfin ?_; simp only [List.append_nil, List.cons_append, List.nil_append]) | refine SL.W.dpass ?_ | refine SL.W.dpure ?_ | refine SL.W.dload ?_ | refine SL.W.dloadA ?_ | refine SL.W.dfrz ?_ | (refine SL.W.dthaw ?_; simp only [List.append_nil, List.cons_append, List.nil_append]) | (refine SL.W.dguardP (fun h => ?_) (fun h => ?_) <;> (fail_if_success (have : h = trivial := rfl)) <;> (fail_if_success (have : h = not_false := rfl)) <;> first | contradiction | (exfalso; omega) | (exfalso; revert h; simp; done) | skip) | (refine SL.W.dguardB (fun h => ?_) (fun h => ?_) <;> (fail_if_success (have : h = (rfl : true = true) := rfl)) <;> (fail_if_success (have : h = (rfl : false = false) := rfl))) | refine SL.W.done ?_ | refine SL.W.dtwo ?_ ?_ | refine SL.W.dthree ?_ ?_ ?_))
    all_goals
      first
      | exact SL.TK.againD ih ⟨i + 1, f2, bag2, by omega, hPn.out.more (by omega), rfl, rfl, rfl⟩ (by first | ((repeat (first | exact SL.Sub.nil | refine SL.Sub.cons (by rfl) (by first | rfl | exact SL.int_eq (by omega)) ?_)); done) | fail) (EntD.cons (by first | ((repeat (first | exact SL.Pick.head | apply SL.Pick.tail)); done) | fail) (EntD.cons (by first | ((repeat (first | exact SL.Pick.head | apply SL.Pick.tail)); done) | fail) EntD.nil)) (by omega)
      | exact SL.TK.againD ih ⟨i + 1, f3, [], by omega, hP3.more (by omega), rfl, rfl, rfl⟩ (by first | ((repeat (first | exact SL.Sub.nil | refine SL.Sub.cons (by rfl) (by first | rfl | exact SL.int_eq (by omega)) ?_)); done) | fail) (EntD.cons (by first | ((repeat (first | exact SL.Pick.head | apply SL.Pick.tail)); done) | fail) (EntD.cons (by first | ((repeat (first | exact SL.Pick.head | apply SL.Pick.tail)); done) | fail) EntD.nil)) (by omega)
  · have hiN : i = N := by omega
    subst hiN
    clear ih
    have hPh2 := Lib.hid (hPh.more (K' := 2000 + 14 * 0) (by omega))
    clear hPh
    repeat' (first | (refine SL.TO.is ?_; first | (refine SL.W.quick ?_; first | refine SL.W.pass ?_ | refine SL.W.pv ?_ | refine SL.W.pv0 ?_) | refine SL.TO.nil ?_ | (refine SL.TO.nilD ?_; simp only [SL.setB]) | refine SL.W.pass ?_ | refine SL.W.pass0 ?_ | (refine SL.W.pure ?_; first | refine SL.W.pv ?_ | refine SL.W.pv0 ?_) | (refine SL.W.loud ?_; first | refine SL.W.load ?_ | refine SL.W.loadA ?_ | refine SL.W.store ?_ | refine SL.W.storeA ?_ | (refine SL.W.box ?_; intro b) | (refine SL.W.alloc ?_; intro b) | (refine SL.W.buildSlice ?_; intro b) | (refine SL.W.append ?_; intro a cap) | refine SL.W.bytesToStr ?_ | refine SL.W.pvn (SL.PV.toIntC (by rfl) (by first | exact SL.wrap_i64 (by omega) | exact SL.wrap_u8 (by omega) | exact SL.wrap_u32 (by omega) | exact SL.wrap_u64 (by omega) | rfl)) ?_ | (refine SL.W.makeSlice ?_; intro b)) | (refine SL.W.guardP (fun h => ?_) (fun h => ?_) <;> (fail_if_success (have : h = trivial := rfl)) <;> (fail_if_success (have : h = not_false := rfl)) <;> first | contradiction | (exfalso; omega) | (exfalso; revert h; simp; done) | skip) | (refine SL.W.guardB (fun h => ?_) (fun h => ?_) <;> (fail_if_success (have : h = (rfl : true = true) := rfl)) <;> (fail_if_success (have : h = (rfl : false = false) := rfl)))) | (refine SL.TK.bk ?_; first | (refine SL.TK.bk (i := 2) ?_; refine SL.TK.block ?_; refine SL.TK.loopD (cmJ b7 gb n v p i ps) ?_ ⟨0, f, bag, Nat.zero_le _, hPh2.out, (fun h => absurd h (by omega)), (fun h => absurd h (by omega)), rfl, rfl, rfl⟩ (by first | ((repeat (first | exact SL.Sub.nil | refine SL.Sub.cons (by rfl) (by first | rfl | exact SL.int_eq (by omega)) ?_)); done) | fail) (EntD.cons (by first | ((repeat (first | exact SL.Pick.head | apply SL.Pick.tail)); done) | fail) (EntD.cons (by first | ((repeat (first | exact SL.Pick.head | apply SL.Pick.tail)); done) | fail) EntD.nil)))) | (refine SL.TK.is ?_; first | refine SL.TK.seq ?_ | refine SL.TK.region ?_ | refine SL.TK.regionD SL.mixed (by simp only [SL.falses] <;> rfl) ?_ | refine SL.TK.block ?_ | refine SL.TK.inBlock ?_ | refine SL.TK.skip ?_ | refine SL.TK.scope ?_ | refine SL.TK.inScope ?_ | refine SL.TK.label ?_ | (refine SL.TK.isExit ?_; refine SL.W.exit ?_) | refine SL.W.condT ?_ | refine SL.W.condF ?_ | (refine SL.W.condP (fun h => ?_) (fun h => ?_) <;> (fail_if_success (have : h = trivial := rfl)) <;> (fail_if_success (have : h = not_false := rfl)) <;> first | contradiction | (exfalso; omega) | (exfalso; revert h; simp; done) | skip) | refine SL.W.condB (fun h => ?_) (fun h => ?_)) | (refine SL.TD.is ?_; first | (refine SL.W.dfin ?_; simp only [List.append_nil, List.cons_append, List.nil_append]) | refine SL.W.dpass ?_ | refine SL.W.dpure ?_ | refine SL.W.dload ?_ | refine SL.W.dloadA ?_ | refine SL.W.dfrz ?_ | (refine SL.W.dthaw ?_; simp only [List.append_nil, List.cons_append, List.nil_append]) | (refine SL.W.dguardP (fun h => ?_) (fun h => ?_) <;> (fail_if_success (have : h = trivial := rfl)) <;> (fail_if_success (have : h = not_false := rfl)) <;> first | contradiction | (exfalso; omega) | (exfalso; revert h; simp; done) | skip) | (refine SL.W.dguardB (fun h => ?_) (fun h => ?_) <;> (fail_if_success (have : h = (rfl : true = true) := rfl)) <;> (fail_if_success (have : h = (rfl : false = false) := rfl))) | refine SL.W.done ?_ | refine SL.W.dtwo ?_ ?_ | refine SL.W.dthree ?_ ?_ ?_))
    rintro ρ L me ⟨j, f, bag, hj, hPh, hc1, hc2, rfl, rfl, rfl⟩ ih
    obtain hj0 | hj0 | hj0 : j = 0 ∨ j = 1 ∨ j = 2 := by omega
    · have hPh : Ph n v p 2000 i f bag := by rw [hj0] at hPh; exact hPh
      clear hc1 hc2 hPh2
      have hs1 := settle_spec b7 gb ps (Ph n v p 2000 i) (fun f bag h => ⟨h.1, h.2.1, by have := h.2.2.1; omega⟩) (fun f t m rest h => h.come) hPh
      simp only [List.nil_append] at hs1
      have hs1 := Lib.hid hs1
      have hb := Lib.hid fun (f1 : Nat → Cs) (hP1 : Ph n v p 2000 i f1 []) => beat_call b7 gb ps hP1 (by omega) (fun f b => AInv n p f b i) (beat_a hP1) (fun f t m rest h1 h2 h3 => come_a h1 h2 h3)
      clear hPh
      have hk0 : Hid True := Lib.hid trivial
      repeat' (first | (refine SL.TO.is ?_; first | (refine SL.W.quick ?_; first | refine SL.W.pass ?_ | refine SL.W.pv ?_ | refine SL.W.pv0 ?_) | (refine SL.TO.door (o := ⟨_, .call _, _, _, _, _⟩) ?_; first | (refine SL.TO.door (o := ⟨_, .call ⟨.value (.func 38), _, _⟩, _, _, _, _⟩) ?_; first | (refine SL.W.call (hd2) ?_; rintro _ _ ⟨rfl, rfl⟩; try simp only [List.cons_append, List.nil_append])) | (refine SL.TO.door (o := ⟨_, .call ⟨.value (.tmp _), _, _⟩, _, _, _, _⟩) ?_; first | (have hk1 : Hid True := (by assumption); clear hk1 hk0; refine SL.TO.callVal (cap := [.pointer (some ⟨b7, 0, none⟩)]) hs1.out (by rfl) (by rfl) rfl (by first | ((repeat (first | exact SL.EvAll.nil | (apply SL.EvAll.cons; rfl))); done) | fail) (by rfl) (by first | ((repeat (first | exact SL.Frm.nil | exact SL.Frm.refl | (apply SL.Frm.cons; repeat (first | exact SL.Pick.head | apply SL.Pick.tail)))); done) | fail) ?_; rintro _ _ ⟨rfl, f1, hP1, rfl⟩; try simp only [List.cons_append, List.nil_append]; obtain ⟨f2, bag2, hd2, hs2⟩ := hb.out f1 hP1) | (refine SL.TO.callVal (cap := [.pointer (some ⟨b7, 0, none⟩)]) hs2 (by rfl) (by rfl) rfl (by first | ((repeat (first | exact SL.EvAll.nil | (apply SL.EvAll.cons; rfl))); done) | fail) (by rfl) (by first | ((repeat (first | exact SL.Frm.nil | exact SL.Frm.refl | (apply SL.Frm.cons; repeat (first | exact SL.Pick.head | apply SL.Pick.tail)))); done) | fail) ?_; rintro _ _ ⟨rfl, f3, hP3, rfl⟩; try simp only [List.cons_append, List.nil_append]))) | refine SL.TO.nil ?_ | (refine SL.TO.nilD ?_; simp only [SL.setB]) | refine SL.W.pass ?_ | refine SL.W.pass0 ?_ | (refine SL.W.pure ?_; first | refine SL.W.pv ?_ | refine SL.W.pv0 ?_) | (refine SL.W.loud ?_; first | refine SL.W.load ?_ | refine SL.W.loadA ?_ | refine SL.W.store ?_ | refine SL.W.storeA ?_ | (refine SL.W.box ?_; intro b) | (refine SL.W.alloc ?_; intro b) | (refine SL.W.buildSlice ?_; intro b) | (refine SL.W.append ?_; intro a cap) | refine SL.W.bytesToStr ?_ | refine SL.W.pvn (SL.PV.toIntC (by rfl) (by first | exact SL.wrap_i64 (by omega) | exact SL.wrap_u8 (by omega) | exact SL.wrap_u32 (by omega) | exact SL.wrap_u64 (by omega) | rfl)) ?_ | (refine SL.W.makeSlice ?_; intro b)) | (refine SL.W.guardP (fun h => ?_) (fun h => ?_) <;> (fail_if_success (have : h = trivial := rfl)) <;> (fail_if_success (have : h = not_false := rfl)) <;> first | contradiction | (exfalso; omega) | (exfalso; revert h; simp; done) | skip) | (refine SL.W.guardB (fun h => ?_) (fun h => ?_) <;> (fail_if_success (have : h = (rfl : true = true) := rfl)) <;> (fail_if_success (have : h = (rfl : false = false) := rfl)))) | (refine SL.TK.is ?_; first | refine SL.TK.seq ?_ | refine SL.TK.region ?_ | refine SL.TK.regionD SL.mixed (by simp only [SL.falses] <;> rfl) ?_ | refine SL.TK.block ?_ | refine SL.TK.inBlock ?_ | refine SL.TK.skip ?_ | refine SL.TK.scope ?_ | refine SL.TK.inScope ?_ | refine SL.TK.label ?_ | (refine SL.TK.isExit ?_; refine SL.W.exit ?_) | refine SL.W.condT ?_ | refine SL.W.condF ?_ | (refine SL.W.condP (fun h => ?_) (fun h => ?_) <;> (fail_if_success (have : h = trivial := rfl)) <;> (fail_if_success (have : h = not_false := rfl)) <;> first | contradiction | (exfalso; omega) | (exfalso; revert h; simp; done) | skip) | refine SL.W.condB (fun h => ?_) (fun h => ?_)) | (refine SL.TD.is ?_; first | (refine SL.W.dfin ?_; simp only [List.append_nil, List.cons_append, List.nil_append]) | refine SL.W.dpass ?_ | refine SL.W.dpure ?_ | refine SL.W.dload ?_ | refine SL.W.dloadA ?_ | refine SL.W.dfrz ?_ | (refine SL.W.dthaw ?_; simp only [List.append_nil, List.cons_append, List.nil_append]) | (refine SL.W.dguardP (fun h => ?_) (fun h => ?_) <;> (fail_if_success (have : h = trivial := rfl)) <;> (fail_if_success (have : h = not_false := rfl)) <;> first | contradiction | (exfalso; omega) | (exfalso; revert h; simp; done) | skip) | (refine SL.W.dguardB (fun h => ?_) (fun h => ?_) <;> (fail_if_success (have : h = (rfl : true = true) := rfl)) <;> (fail_if_success (have : h = (rfl : false = false) := rfl))) | refine SL.W.done ?_ | refine SL.W.dtwo ?_ ?_ | refine SL.W.dthree ?_ ?_ ?_))
      all_goals
        have hcm : ∀ t, t < n → (f3 t).commit = i := fun t ht => by
          by_cases e : t = p
          · rw [e]; exact hP3.2.com
          · rcases hP3.2.all t ht e with a | ⟨x, hx, _⟩
            · exact a
            · simp at hx
        exact SL.TK.againD ih ⟨j + 1, f3, [], by omega, hP3.1.more (by omega), fun _ => ⟨rfl, hcm⟩, fun h => absurd h (by omega), rfl, rfl, rfl⟩ (by first | ((repeat (first | exact SL.Sub.nil | refine SL.Sub.cons (by rfl) (by first | rfl | exact SL.int_eq (by omega)) ?_)); done) | fail) (EntD.cons (by first | ((repeat (first | exact SL.Pick.head | apply SL.Pick.tail)); done) | fail) (EntD.cons (by first | ((repeat (first | exact SL.Pick.head | apply SL.Pick.tail)); done) | fail) EntD.nil)) (by omega)
    · obtain ⟨rfl, hcm⟩ := hc1 (by omega)
      have hPh : Ph n v p 2014 i f [] := by rw [hj0] at hPh; exact hPh
      clear hc1 hc2 hPh2
      have hs1 := settle_spec b7 gb ps (fun f' b => b = [] ∧ f = f' ∧ Ph n v p 2014 i f []) (fun f' bag h => by obtain ⟨rfl, rfl, h⟩ := h; exact ⟨h.1, h.2.1, by have := h.2.2.1; omega⟩) (fun f' t m rest h => by simp at h) ⟨rfl, rfl, hPh⟩
      simp only [List.nil_append] at hs1
      have hs1 := Lib.hid hs1
      obtain ⟨f2, bag2, hd2, hs2⟩ := beat_call b7 gb ps hPh (by omega) (fun f b => BInv n p f b i) (beat_b hPh hcm) (fun f t m rest h1 h2 h3 => come_b h1 h2 h3)
      clear hPh hcm
      have hk0 : Hid True := Lib.hid trivial
      repeat' (first | (refine SL.TO.is ?_; first | (refine SL.W.quick ?_; first | refine SL.W.pass ?_ | refine SL.W.pv ?_ | refine SL.W.pv0 ?_) | (refine SL.TO.door (o := ⟨_, .call _, _, _, _, _⟩) ?_; first | (refine SL.TO.door (o := ⟨_, .call ⟨.value (.func 38), _, _⟩, _, _, _, _⟩) ?_; first | (refine SL.W.call (hd2) ?_; rintro _ _ ⟨rfl, rfl⟩; try simp only [List.cons_append, List.nil_append])) | (refine SL.TO.door (o := ⟨_, .call ⟨.value (.tmp _), _, _⟩, _, _, _, _⟩) ?_; first | (have hk1 : Hid True := (by assumption); clear hk1 hk0; refine SL.TO.callVal (cap := [.pointer (some ⟨b7, 0, none⟩)]) hs1.out (by rfl) (by rfl) rfl (by first | ((repeat (first | exact SL.EvAll.nil | (apply SL.EvAll.cons; rfl))); done) | fail) (by rfl) (by first | ((repeat (first | exact SL.Frm.nil | exact SL.Frm.refl | (apply SL.Frm.cons; repeat (first | exact SL.Pick.head | apply SL.Pick.tail)))); done) | fail) ?_; rintro _ _ ⟨rfl, f1, ⟨_, e1, _⟩, rfl⟩; rw [← e1]; try simp only [List.cons_append, List.nil_append]) | (refine SL.TO.callVal (cap := [.pointer (some ⟨b7, 0, none⟩)]) hs2 (by rfl) (by rfl) rfl (by first | ((repeat (first | exact SL.EvAll.nil | (apply SL.EvAll.cons; rfl))); done) | fail) (by rfl) (by first | ((repeat (first | exact SL.Frm.nil | exact SL.Frm.refl | (apply SL.Frm.cons; repeat (first | exact SL.Pick.head | apply SL.Pick.tail)))); done) | fail) ?_; rintro _ _ ⟨rfl, f3, hP3, rfl⟩; try simp only [List.cons_append, List.nil_append]))) | refine SL.TO.nil ?_ | (refine SL.TO.nilD ?_; simp only [SL.setB]) | refine SL.W.pass ?_ | refine SL.W.pass0 ?_ | (refine SL.W.pure ?_; first | refine SL.W.pv ?_ | refine SL.W.pv0 ?_) | (refine SL.W.loud ?_; first | refine SL.W.load ?_ | refine SL.W.loadA ?_ | refine SL.W.store ?_ | refine SL.W.storeA ?_ | (refine SL.W.box ?_; intro b) | (refine SL.W.alloc ?_; intro b) | (refine SL.W.buildSlice ?_; intro b) | (refine SL.W.append ?_; intro a cap) | refine SL.W.bytesToStr ?_ | refine SL.W.pvn (SL.PV.toIntC (by rfl) (by first | exact SL.wrap_i64 (by omega) | exact SL.wrap_u8 (by omega) | exact SL.wrap_u32 (by omega) | exact SL.wrap_u64 (by omega) | rfl)) ?_ | (refine SL.W.makeSlice ?_; intro b)) | (refine SL.W.guardP (fun h => ?_) (fun h => ?_) <;> (fail_if_success (have : h = trivial := rfl)) <;> (fail_if_success (have : h = not_false := rfl)) <;> first | contradiction | (exfalso; omega) | (exfalso; revert h; simp; done) | skip) | (refine SL.W.guardB (fun h => ?_) (fun h => ?_) <;> (fail_if_success (have : h = (rfl : true = true) := rfl)) <;> (fail_if_success (have : h = (rfl : false = false) := rfl)))) | (refine SL.TK.is ?_; first | refine SL.TK.seq ?_ | refine SL.TK.region ?_ | refine SL.TK.regionD SL.mixed (by simp only [SL.falses] <;> rfl) ?_ | refine SL.TK.block ?_ | refine SL.TK.inBlock ?_ | refine SL.TK.skip ?_ | refine SL.TK.scope ?_ | refine SL.TK.inScope ?_ | refine SL.TK.label ?_ | (refine SL.TK.isExit ?_; refine SL.W.exit ?_) | refine SL.W.condT ?_ | refine SL.W.condF ?_ | (refine SL.W.condP (fun h => ?_) (fun h => ?_) <;> (fail_if_success (have : h = trivial := rfl)) <;> (fail_if_success (have : h = not_false := rfl)) <;> first | contradiction | (exfalso; omega) | (exfalso; revert h; simp; done) | skip) | refine SL.W.condB (fun h => ?_) (fun h => ?_)) | (refine SL.TD.is ?_; first | (refine SL.W.dfin ?_; simp only [List.append_nil, List.cons_append, List.nil_append]) | refine SL.W.dpass ?_ | refine SL.W.dpure ?_ | refine SL.W.dload ?_ | refine SL.W.dloadA ?_ | refine SL.W.dfrz ?_ | (refine SL.W.dthaw ?_; simp only [List.append_nil, List.cons_append, List.nil_append]) | (refine SL.W.dguardP (fun h => ?_) (fun h => ?_) <;> (fail_if_success (have : h = trivial := rfl)) <;> (fail_if_success (have : h = not_false := rfl)) <;> first | contradiction | (exfalso; omega) | (exfalso; revert h; simp; done) | skip) | (refine SL.W.dguardB (fun h => ?_) (fun h => ?_) <;> (fail_if_success (have : h = (rfl : true = true) := rfl)) <;> (fail_if_success (have : h = (rfl : false = false) := rfl))) | refine SL.W.done ?_ | refine SL.W.dtwo ?_ ?_ | refine SL.W.dthree ?_ ?_ ?_))
      all_goals exact SL.TK.againD ih ⟨j + 1, f3, [], by omega, hP3.1.more (by omega), fun _ => ⟨rfl, hP3.2.com⟩, fun _ => hP3.2, rfl, rfl, rfl⟩ (by first | ((repeat (first | exact SL.Sub.nil | refine SL.Sub.cons (by rfl) (by first | rfl | exact SL.int_eq (by omega)) ?_)); done) | fail) (EntD.cons (by first | ((repeat (first | exact SL.Pick.head | apply SL.Pick.tail)); done) | fail) (EntD.cons (by first | ((repeat (first | exact SL.Pick.head | apply SL.Pick.tail)); done) | fail) EntD.nil)) (by omega)
    · obtain ⟨rfl, hcm⟩ := hc1 (by omega)
      have hB := hc2 (by omega)
      have hG := hPh.1
      have hfl := last_floor hPh hB
      have hlen := hB.len
      have hp := hG.pn
      clear hc1 hc2 hPh2 hB hPh ih
      refine SL.TK.openGr (by first | ((repeat (first | exact SL.Pick.head | apply SL.Pick.tail)); done) | fail) (fun lp lc M m bc ba ex bs g hM hb hm => ?_)
      rw [lsF_len] at hM
      subst hM
      clear hb hm
      have hn := fun (i : Nat) (hi : i < M) => ptrs_get (ps := ps) (f := f) (ex := ex) (i := i) (n := M) hi
      have hpr := prim_open gb M v lp lc ps f ex hG.n1 hG.n7 (hG.vw 0 (by omega)) (.slice ba m bc)
      rw [← hG.pp] at hpr
      obtain ⟨pl, hpl⟩ : ∃ pl, pl = (lsF M ps f).map ptrV ++ ex := ⟨_, rfl⟩
      rw [← hpl] at hn hpr ⊢
      have hnp := hn p hp
      obtain ⟨q8, hq8⟩ : ∃ q8 : Nat, q8 = i / 8 := ⟨_, rfl⟩
      obtain ⟨d8, hd8⟩ : ∃ d8 : Nat, d8 = i / 8 * 8 := ⟨_, rfl⟩
      have hw1 : IntKind.u64.wrap ((i : Int).tdiv 8) = q8 := by
        have e : (i : Int).tdiv 8 = q8 := by rw [hq8, Int.tdiv_eq_ediv_of_nonneg (by omega)]; omega
        rw [e]
        show (q8 : Int) % 18446744073709551616 = q8
        omega
      have hw2 : IntKind.u64.wrap ((q8 : Int) * 8) = d8 := by
        have e : (q8 : Int) * 8 = d8 := by rw [hq8, hd8]; omega
        rw [e]
        show (d8 : Int) % 18446744073709551616 = d8
        omega
      have hFp := cosF_lift (ps := ps) hp (coFloor_spec (ps p) (f p))
      rw [hfl, show (i : Int) / 8 * 8 = (d8 : Int) from by rw [hd8]; omega] at hFp
      have hFp := Lib.hid hFp
      have hpr := Lib.hid hpr
      have hnH := Lib.hid hn
      have hGH := Lib.hid hG
      have hcmH := Lib.hid hcm
      have hlenH := Lib.hid hlen
      clear hn hG hcm hlen hpl hq8 hd8 hfl
      repeat' (first | (refine SL.TO.is ?_; first | (refine SL.W.quick ?_; first | refine SL.W.pass ?_ | refine SL.W.pv ?_ | refine SL.W.pv0 ?_) | refine SL.TO.nil ?_ | (refine SL.TO.nilD ?_; simp only [SL.setB]) | refine SL.W.pass ?_ | refine SL.W.pass0 ?_ | (refine SL.W.pure ?_; first | refine SL.W.pv ?_ | refine SL.W.pv0 ?_) | (refine SL.W.loud ?_; first | refine SL.W.load ?_ | refine SL.W.loadA ?_ | refine SL.W.store ?_ | refine SL.W.storeA ?_ | (refine SL.W.box ?_; intro b) | (refine SL.W.alloc ?_; intro b) | (refine SL.W.buildSlice ?_; intro b) | (refine SL.W.append ?_; intro a cap) | refine SL.W.bytesToStr ?_ | refine SL.W.pvn (SL.PV.toIntC (by rfl) (by first | exact SL.wrap_i64 (by omega) | exact SL.wrap_u8 (by omega) | exact SL.wrap_u32 (by omega) | exact SL.wrap_u64 (by omega) | rfl)) ?_ | (refine SL.W.makeSlice ?_; intro b)) | (refine SL.W.guardP (fun h => ?_) (fun h => ?_) <;> (fail_if_success (have : h = trivial := rfl)) <;> (fail_if_success (have : h = not_false := rfl)) <;> first | contradiction | (exfalso; omega) | (exfalso; revert h; simp; done) | skip) | (refine SL.W.guardB (fun h => ?_) (fun h => ?_) <;> (fail_if_success (have : h = (rfl : true = true) := rfl)) <;> (fail_if_success (have : h = (rfl : false = false) := rfl)))) | (refine SL.TK.bk ?_; first | (refine SL.TK.bk (i := 4) ?_; refine SL.TK.block ?_; refine SL.TK.loopD (cmK b7 lp lc M i [SL.blk b7 67 [.pointer (some ⟨gb, 0, none⟩)], SL.blk gb 77 [.slice (some ⟨lp, 0, none⟩) M lc, .slice ba m bc], SL.blk lp 87 pl, CosAt (lsF M ps f), own 85 21 ba m bc bs, RO g]) ?_ ⟨0, Nat.zero_le _, rfl, rfl, rfl⟩ (by first | ((repeat (first | exact SL.Sub.nil | refine SL.Sub.cons (by rfl) (by first | rfl | exact SL.int_eq (by omega)) ?_)); done) | fail) (EntD.cons (by first | ((repeat (first | exact SL.Pick.head | apply SL.Pick.tail)); done) | fail) (EntD.cons (by first | ((repeat (first | exact SL.Pick.head | apply SL.Pick.tail)); done) | fail) (EntD.cons (by first | ((repeat (first | exact SL.Pick.head | apply SL.Pick.tail)); done) | fail) (EntD.cons (by first | ((repeat (first | exact SL.Pick.head | apply SL.Pick.tail)); done) | fail) (EntD.cons (by first | ((repeat (first | exact SL.Pick.head | apply SL.Pick.tail)); done) | fail) (EntD.cons (by first | ((repeat (first | exact SL.Pick.head | apply SL.Pick.tail)); done) | fail) EntD.nil)))))))) | (refine SL.TK.is ?_; first | refine SL.TK.seq ?_ | refine SL.TK.region ?_ | refine SL.TK.regionD SL.mixed (by simp only [SL.falses] <;> rfl) ?_ | refine SL.TK.block ?_ | refine SL.TK.inBlock ?_ | refine SL.TK.skip ?_ | refine SL.TK.scope ?_ | refine SL.TK.inScope ?_ | refine SL.TK.label ?_ | (refine SL.TK.isExit ?_; refine SL.W.exit ?_) | refine SL.W.condT ?_ | refine SL.W.condF ?_ | (refine SL.W.condP (fun h => ?_) (fun h => ?_) <;> (fail_if_success (have : h = trivial := rfl)) <;> (fail_if_success (have : h = not_false := rfl)) <;> first | contradiction | (exfalso; omega) | (exfalso; revert h; simp; done) | skip) | refine SL.W.condB (fun h => ?_) (fun h => ?_)) | (refine SL.TD.is ?_; first | (refine SL.W.dfin ?_; simp only [List.append_nil, List.cons_append, List.nil_append]) | refine SL.W.dpass ?_ | refine SL.W.dpure ?_ | refine SL.W.dload ?_ | refine SL.W.dloadA ?_ | refine SL.W.dfrz ?_ | (refine SL.W.dthaw ?_; simp only [List.append_nil, List.cons_append, List.nil_append]) | (refine SL.W.dguardP (fun h => ?_) (fun h => ?_) <;> (fail_if_success (have : h = trivial := rfl)) <;> (fail_if_success (have : h = not_false := rfl)) <;> first | contradiction | (exfalso; omega) | (exfalso; revert h; simp; done) | skip) | (refine SL.W.dguardB (fun h => ?_) (fun h => ?_) <;> (fail_if_success (have : h = (rfl : true = true) := rfl)) <;> (fail_if_success (have : h = (rfl : false = false) := rfl))) | refine SL.W.done ?_ | refine SL.W.dtwo ?_ ?_ | refine SL.W.dthree ?_ ?_ ?_))
      rintro ρ L me ⟨k, hk, rfl, rfl, rfl⟩ ih
      by_cases hlt : k < M
      · have hnk := hnH.out k hlt
        have hok := hGH.out.ok hlt
        have hCi := cosF_lift (ps := ps) hlt (coCommit_spec (ps k) (f k))
        have hOi := cosF_lift (ps := ps) hlt (coOp_spec (ps k) (f k) hok)
        have hFi := cosF_lift (ps := ps) hlt (coFloor_spec (ps k) (f k))
        have hf0 := hGH.out.fl0 k hlt
        rw [op_len (hGH.out.base k hlt), hlenH.out k hlt] at hOi
        rw [hcmH.out k hlt] at hCi hf0
        obtain ⟨fk, hfk⟩ : ∃ x, x = (f k).floor := ⟨_, rfl⟩
        rw [← hfk] at hFi hf0
        have hCi := Lib.hid hCi
        have hOi := Lib.hid hOi
        have hFi := Lib.hid hFi
        clear hok hfk hw1 hw2
        repeat' (first | (refine SL.TO.is ?_; first | (refine SL.W.quick ?_; first | refine SL.W.pass ?_ | refine SL.W.pv ?_ | refine SL.W.pv0 ?_) | (refine SL.TO.door (o := ⟨_, .call _, _, _, _, _⟩) ?_; first | (refine SL.TO.door (o := ⟨_, .call ⟨.value (.func 40), _, _⟩, _, _, _, _⟩) ?_; first | (refine SL.W.call (hCi.out) ?_; rintro _ _ ⟨rfl, rfl⟩; try simp only [List.cons_append, List.nil_append])) | (refine SL.TO.door (o := ⟨_, .call ⟨.value (.func 43), _, _⟩, _, _, _, _⟩) ?_; first | (refine SL.W.call (hFi.out) ?_; rintro _ _ ⟨rfl, rfl⟩; try simp only [List.cons_append, List.nil_append])) | (refine SL.TO.door (o := ⟨_, .call ⟨.value (.func 42), _, _⟩, _, _, _, _⟩) ?_; first | (refine SL.W.call (hOi.out) ?_; rintro _ _ ⟨rfl, rfl⟩; try simp only [List.cons_append, List.nil_append]))) | (refine SL.TO.door (o := ⟨_, .indexAddr _ _ _, _, _, _, _⟩) ?_; first | refine SL.W.pvn (SL.PV.indexAddr (len := M) (i' := k) (o' := k) (by rfl) (by rfl) rfl hlt (by omega)) ?_) | (refine SL.TO.door (o := ⟨_, .load _ _, _, _, _, _⟩) ?_; first | refine SL.W.loadN hnk ?_) | refine SL.TO.nil ?_ | (refine SL.TO.nilD ?_; simp only [SL.setB]) | refine SL.W.pass ?_ | refine SL.W.pass0 ?_ | (refine SL.W.pure ?_; first | (refine SL.TO.door (o := ⟨_, .binOp _ _ _ _ _, _, _, _, _⟩) ?_; first | (refine SL.TO.door (o := ⟨_, .binOp .neq _ _ _ _, _, _, _, _⟩) ?_; refine SL.W.pvn (SL.PV.neIF (by rfl) (by rfl) (by omega)) ?_)) | refine SL.W.pv ?_ | refine SL.W.pv0 ?_) | (refine SL.W.loud ?_; first | refine SL.W.load ?_ | refine SL.W.loadA ?_ | refine SL.W.store ?_ | refine SL.W.storeA ?_ | (refine SL.W.box ?_; intro b) | (refine SL.W.alloc ?_; intro b) | (refine SL.W.buildSlice ?_; intro b) | (refine SL.W.append ?_; intro a cap) | refine SL.W.bytesToStr ?_ | refine SL.W.pvn (SL.PV.toIntC (by rfl) (by first | exact SL.wrap_i64 (by omega) | exact SL.wrap_u8 (by omega) | exact SL.wrap_u32 (by omega) | exact SL.wrap_u64 (by omega) | rfl)) ?_ | (refine SL.W.makeSlice ?_; intro b)) | (refine SL.W.guardP (fun h => ?_) (fun h => ?_) <;> (fail_if_success (have : h = trivial := rfl)) <;> (fail_if_success (have : h = not_false := rfl)) <;> first | contradiction | (exfalso; omega) | (exfalso; revert h; simp; done) | skip) | (refine SL.W.guardB (fun h => ?_) (fun h => ?_) <;> (fail_if_success (have : h = (rfl : true = true) := rfl)) <;> (fail_if_success (have : h = (rfl : false = false) := rfl)))) | (refine SL.TK.is ?_; first | refine SL.TK.seq ?_ | refine SL.TK.region ?_ | refine SL.TK.regionD SL.mixed (by simp only [SL.falses] <;> rfl) ?_ | refine SL.TK.block ?_ | refine SL.TK.inBlock ?_ | refine SL.TK.skip ?_ | refine SL.TK.scope ?_ | refine SL.TK.inScope ?_ | refine SL.TK.label ?_ | (refine SL.TK.isExit ?_; refine SL.W.exit ?_) | refine SL.W.condT ?_ | refine SL.W.condF ?_ | (refine SL.W.condP (fun h => ?_) (fun h => ?_) <;> (fail_if_success (have : h = trivial := rfl)) <;> (fail_if_success (have : h = not_false := rfl)) <;> first | contradiction | (exfalso; omega) | (exfalso; revert h; simp; done) | skip) | refine SL.W.condB (fun h => ?_) (fun h => ?_)) | (refine SL.TD.is ?_; first | (refine SL.W.dfin ?_; simp only [List.append_nil, List.cons_append, List.nil_append]) | refine SL.W.dpass ?_ | refine SL.W.dpure ?_ | refine SL.W.dload ?_ | refine SL.W.dloadA ?_ | refine SL.W.dfrz ?_ | (refine SL.W.dthaw ?_; simp only [List.append_nil, List.cons_append, List.nil_append]) | (refine SL.W.dguardP (fun h => ?_) (fun h => ?_) <;> (fail_if_success (have : h = trivial := rfl)) <;> (fail_if_success (have : h = not_false := rfl)) <;> first | contradiction | (exfalso; omega) | (exfalso; revert h; simp; done) | skip) | (refine SL.W.dguardB (fun h => ?_) (fun h => ?_) <;> (fail_if_success (have : h = (rfl : true = true) := rfl)) <;> (fail_if_success (have : h = (rfl : false = false) := rfl))) | refine SL.W.done ?_ | refine SL.W.dtwo ?_ ?_ | refine SL.W.dthree ?_ ?_ ?_))
        all_goals exact SL.TK.againD ih ⟨k + 1, by omega, rfl, rfl, rfl⟩ (by first | ((repeat (first | exact SL.Sub.nil | refine SL.Sub.cons (by rfl) (by first | rfl | exact SL.int_eq (by omega)) ?_)); done) | fail) (EntD.cons (by first | ((repeat (first | exact SL.Pick.head | apply SL.Pick.tail)); done) | fail) (EntD.cons (by first | ((repeat (first | exact SL.Pick.head | apply SL.Pick.tail)); done) | fail) (EntD.cons (by first | ((repeat (first | exact SL.Pick.head | apply SL.Pick.tail)); done) | fail) (EntD.cons (by first | ((repeat (first | exact SL.Pick.head | apply SL.Pick.tail)); done) | fail) (EntD.cons (by first | ((repeat (first | exact SL.Pick.head | apply SL.Pick.tail)); done) | fail) (EntD.cons (by first | ((repeat (first | exact SL.Pick.head | apply SL.Pick.tail)); done) | fail) EntD.nil)))))) (by omega)
      · clear ih
        repeat' (first | (refine SL.TO.is ?_; first | (refine SL.W.quick ?_; first | refine SL.W.pass ?_ | refine SL.W.pv ?_ | refine SL.W.pv0 ?_) | (refine SL.TO.door (o := ⟨_, .call _, _, _, _, _⟩) ?_; first | (refine SL.TO.door (o := ⟨_, .call ⟨.value (.func 44), _, _⟩, _, _, _, _⟩) ?_; first | refine SL.W.callQ hpr.out ?_) | (refine SL.TO.door (o := ⟨_, .call ⟨.value (.func 43), _, _⟩, _, _, _, _⟩) ?_; first | refine SL.W.callQ hFp.out ?_)) | refine SL.TO.nil ?_ | (refine SL.TO.nilD ?_; simp only [SL.setB]) | refine SL.W.pass ?_ | refine SL.W.pass0 ?_ | (refine SL.W.pure ?_; first | refine SL.W.pv ?_ | refine SL.W.pv0 ?_) | (refine SL.W.loud ?_; first | refine SL.W.load ?_ | refine SL.W.loadA ?_ | refine SL.W.store ?_ | refine SL.W.storeA ?_ | (refine SL.W.box ?_; intro b) | (refine SL.W.alloc ?_; intro b) | (refine SL.W.buildSlice ?_; intro b) | (refine SL.W.append ?_; intro a cap) | refine SL.W.bytesToStr ?_ | refine SL.W.pvn (SL.PV.toIntC (by rfl) (by first | exact SL.wrap_i64 (by omega) | exact SL.wrap_u8 (by omega) | exact SL.wrap_u32 (by omega) | exact SL.wrap_u64 (by omega) | rfl)) ?_ | (refine SL.W.makeSlice ?_; intro b)) | (refine SL.W.guardP (fun h => ?_) (fun h => ?_) <;> (fail_if_success (have : h = trivial := rfl)) <;> (fail_if_success (have : h = not_false := rfl)) <;> first | contradiction | (exfalso; omega) | (exfalso; revert h; simp; done) | skip) | (refine SL.W.guardB (fun h => ?_) (fun h => ?_) <;> (fail_if_success (have : h = (rfl : true = true) := rfl)) <;> (fail_if_success (have : h = (rfl : false = false) := rfl)))) | (refine SL.TK.is ?_; first | refine SL.TK.seq ?_ | refine SL.TK.region ?_ | refine SL.TK.regionD SL.mixed (by simp only [SL.falses] <;> rfl) ?_ | refine SL.TK.block ?_ | refine SL.TK.inBlock ?_ | refine SL.TK.skip ?_ | refine SL.TK.scope ?_ | refine SL.TK.inScope ?_ | refine SL.TK.label ?_ | (refine SL.TK.isExit ?_; refine SL.W.exit ?_) | refine SL.W.condT ?_ | refine SL.W.condF ?_ | (refine SL.W.condP (fun h => ?_) (fun h => ?_) <;> (fail_if_success (have : h = trivial := rfl)) <;> (fail_if_success (have : h = not_false := rfl)) <;> first | contradiction | (exfalso; omega) | (exfalso; revert h; simp; done) | skip) | refine SL.W.condB (fun h => ?_) (fun h => ?_)) | (refine SL.TD.is ?_; first | refine SL.W.dpure (hv := SL.PV.indexAddr (len := M) (i' := p) (o' := p) (by rfl) (by rfl) rfl hp (by omega)) ?_ | refine SL.W.dloadN hnp ?_ | refine SL.W.dpure (hv := SL.PV.quo (by rfl) (by rfl) (by decide) hw1) ?_ | refine SL.W.dpure (hv := SL.PV.mul (by rfl) (by rfl) hw2) ?_ | refine SL.W.dpure (hv := SL.PV.eqIT (by rfl) (by rfl) rfl) ?_ | (refine SL.W.dfin ?_; simp only [List.append_nil, List.cons_append, List.nil_append]) | refine SL.W.dpass ?_ | refine SL.W.dpure ?_ | refine SL.W.dload ?_ | refine SL.W.dloadA ?_ | refine SL.W.dfrz ?_ | (refine SL.W.dthaw ?_; simp only [List.append_nil, List.cons_append, List.nil_append]) | (refine SL.W.dguardP (fun h => ?_) (fun h => ?_) <;> (fail_if_success (have : h = trivial := rfl)) <;> (fail_if_success (have : h = not_false := rfl)) <;> first | contradiction | (exfalso; omega) | (exfalso; revert h; simp; done) | skip) | (refine SL.W.dguardB (fun h => ?_) (fun h => ?_) <;> (fail_if_success (have : h = (rfl : true = true) := rfl)) <;> (fail_if_success (have : h = (rfl : false = false) := rfl))) | refine SL.W.done ?_ | refine SL.W.dtwo ?_ ?_ | refine SL.W.dthree ?_ ?_ ?_))
        all_goals exact SL.TK.retD Try.func10 (SL.Res.one rfl (by rfl)) ⟨rfl, rfl⟩ EntD.nil
end SL

namespace Go.Proofs.Ytjnlkljmaiddnaa.coreComes
open Go.ChangeShapes Go.WideShapes Go.ChangeAt Go.RowKit

theorem own : ownKnob Try.prog.godebug = none := by kernel_rfl
theorem laid : laidOutB Try.prog = true := by kernel_rfl

theorem contract (H : Type) (enc : TypeId × Value → H) (W : World) (base : Nat) (args : Array Value) (ds gs : List (DataW H)) (before : List MemPlace)
    (hval : ∀ (j : Nat) t v, Try.f10.params[j]? = some t → args[j]? = some v → Value.okWide Try.prog W .any base t v)
    (hW : DataW.Whole enc Try.prog Try.f10.params.toList Rows.coreComesSpec.vars false W args.toList ds gs before) :
    Calls Try.prog 10 args W fun e W' => ∃ v, e = .returned v ∧ Rows.coreComesSpec.post enc Try.prog Try.f10 false true false false W args v W' := by
  have hW' := hW
  obtain ⟨p, q, hA0, hV, rfl, hfz, hnd⟩ := hW
  have hA : DataW.TrodAll enc Try.prog W 0 (fun _ => true) true Try.f10.params.toList args.toList ds p := hA0
  rw [Try.params10] at hA hval
  obtain ⟨v0, vs0, d0, ds0, p0, q0, hargs, rfl, rfl, h0, r0⟩ := trodAll_cons hA
  obtain ⟨v1, vs1, d1, ds1, p1, q1, rfl, rfl, rfl, h1, r1⟩ := trodAll_cons r0
  obtain ⟨v2, vs2, d2, ds2, p2, q2, rfl, rfl, rfl, h2, r2⟩ := trodAll_cons r1
  obtain ⟨rfl, rfl, rfl⟩ := trodAll_nil r2
  obtain rfl : args = #[v0, v1, v2] := by cases args; simp_all
  obtain ⟨rfl, rfl⟩ := trodVars_none hV
  refine SL.law_calls (ds := [d0, d1, d2]) (gs := []) laid (by kernel_rfl) rfl rfl rfl (by kernel_rfl) hW' ?_
  obtain ⟨z, rfl, _, _, hz⟩ := open_int Try.underlying5 (hval 0 5 v0 rfl rfl) h0
  obtain ⟨w, rfl, _, _, hw⟩ := open_int Try.underlying23 (hval 1 23 v1 rfl rfl) h1
  obtain ⟨m, rfl, _, _, hm⟩ := open_int Try.underlying5 (hval 2 5 v2 rfl rfl) h2
  have hz := SL.wf_u8 hz
  have hw := SL.wf_u64 hw
  have hm := SL.wf_u8 hm
  obtain ⟨zn, rfl⟩ : ∃ m : Nat, z = (m : Int) := ⟨z.toNat, by omega⟩
  obtain ⟨wn, rfl⟩ : ∃ m : Nat, w = (m : Int) := ⟨w.toNat, by omega⟩
  obtain ⟨mn, rfl⟩ : ∃ x : Nat, m = (x : Int) := ⟨m.toNat, by omega⟩
  exact SL.Spec.framed0 (SL.comes_spec zn wn mn (by omega) (by omega) (by omega))

set_option maxRecDepth 100000 in
theorem lifted (os : Os) (started : os.Started) (H : Type) (enc : TypeId × Value → H) :
    ReturnsInHanded {} Try.checked os 10 .any (Rows.coreComesSpec.pre6 enc Try.prog Try.f10 [] false) (Rows.coreComesSpec.post enc Try.prog Try.f10 false true false false) := by
  refine returnsInHanded_of_change own started (by kernel_rfl) Try.func10
    (ChangeSpec.witness6 false ⟨#[], #[.int .u8 0, .int .u64 0, .int .u8 0], []⟩ 8 (by kernel_rfl) (by kernel_rfl) (by kernel_rfl) (by kernel_rfl)) ?_
  intro W base args ds gs before hval hW _ _
  exact contract H enc W base args ds gs before hval hW

theorem proved : Rows.CoreComesSaid :=
  OpenClaim.holds_of_wide 10 Try.f10 rfl rfl rfl rfl rfl rfl rfl ⟨rfl, rfl, rfl, rfl, rfl⟩ rfl rfl rfl rfl rfl (by kernel_rfl) Try.func10 (by kernel_rfl)
    (of_decide_eq_true (by kernel_rfl)) (by unfold Func.isWrapper; first | (rw [if_pos (by decide +kernel)]; kernel_rfl) | (rw [if_neg (by decide +kernel)]; exact ⟨rfl, rfl⟩))
    (fun os started H enc _ => lifted os started H enc)
end Go.Proofs.Ytjnlkljmaiddnaa.coreComes
