/-
  Contract of CoreComes' settle.
-/
import Derived.Test.YtjnlkljmaiddnaaCo20
import Derived.Test.YtjnlkljmaiddnaaCo24
set_option linter.unusedVariables false
set_option linter.unusedSimpArgs false
set_option maxRecDepth 10000

namespace SL
open Go Go.Proofs Go.RowKit
theorem doesR_head (n p : Nat) (f : Nat → Cs) (t : Nat) (m : Mg) (rest : List (Nat × Mg)) : doesR n p f ((t, m) :: rest) 1 0 = comeR p f rest t m := by
  unfold doesR
  rw [if_neg (by decide), if_pos (.inl rfl)]
  simp
attribute [local irreducible] SL.TK SL.TO SL.TD SL.PV SL.Pick SL.Frm SL.Ent SL.Sub SL.EvAll SL.seps SL.sep SL.Cut SL.PutAt SL.blk SL.EvP SL.Fill SL.Src SL.EntD SL.own SL.ex SL.fact SL.orig
def stI (b7 gb n : Nat) (ps : Nat → Nat) (Φ : (Nat → Cs) → List (Nat × Mg) → Prop) (ρ : Env) (L : List HProp) (me : Nat) : Prop := ∃ (f : Nat → Cs) (bag : List (Nat × Mg)), Φ f bag ∧
  ρ = [(0, .pointer (some ⟨b7, 0, none⟩))] ∧ L = [SL.blk b7 67 [.pointer (some ⟨gb, 0, none⟩)], GroupAt gb (lsF n ps f) bag] ∧ me = wt bag
theorem settle_spec {n v p : Nat} (b7 gb : Nat) (ps : Nat → Nat) (Φ : (Nat → Cs) → List (Nat × Mg) → Prop) (hG : ∀ f bag, Φ f bag → GInv n v p f bag ∧ HInv n p f bag ∧ wt bag ≤ 100000) (hS : ∀ f t m rest, Φ f ((t, m) :: rest) → Φ (comeR p f rest t m).1 (comeR p f rest t m).2)
    {f : Nat → Cs} {bag : List (Nat × Mg)} (h : Φ f bag) :
    Spec Try.prog 41 ([] ++ [.pointer (some ⟨b7, 0, none⟩)]) [SL.blk b7 67 [.pointer (some ⟨gb, 0, none⟩)], GroupAt gb (lsF n ps f) bag]
    (fun r L => r = .bool true ∧ ∃ f', Φ f' [] ∧ L = [SL.blk b7 67 [.pointer (some ⟨gb, 0, none⟩)], GroupAt gb (lsF n ps f') []]) := by
  have hGH := Lib.hid hG
  have hSH := Lib.hid hS
  clear hG hS
  simp only [List.nil_append]
  refine SL.Spec.of_TK Go.Proofs.Try.func41 rfl rfl SL.call41 rfl ?_
  repeat' (first | (refine SL.TO.is ?_; first | (refine SL.W.quick ?_; first | refine SL.W.pass ?_ | refine SL.W.pv ?_ | refine SL.W.pv0 ?_) | refine SL.TO.nil ?_ | (refine SL.TO.nilD ?_; simp only [SL.setB]) | refine SL.W.pass ?_ | refine SL.W.pass0 ?_ | (refine SL.W.pure ?_; first | refine SL.W.pv ?_ | refine SL.W.pv0 ?_) | (refine SL.W.loud ?_; first | refine SL.W.load ?_ | refine SL.W.loadA ?_ | refine SL.W.store ?_ | refine SL.W.storeA ?_ | (refine SL.W.box ?_; intro b) | (refine SL.W.alloc ?_; intro b) | (refine SL.W.buildSlice ?_; intro b) | (refine SL.W.append ?_; intro a cap) | refine SL.W.bytesToStr ?_ | refine SL.W.pvn (SL.PV.toIntC (by rfl) (by first | exact SL.wrap_i64 (by omega) | exact SL.wrap_u8 (by omega) | exact SL.wrap_u32 (by omega) | exact SL.wrap_u64 (by omega) | rfl)) ?_ | (refine SL.W.makeSlice ?_; intro b)) | (refine SL.W.guardP (fun h => ?_) (fun h => ?_) <;> (fail_if_success (have : h = trivial := rfl)) <;> (fail_if_success (have : h = not_false := rfl)) <;> first | contradiction | (exfalso; omega) | (exfalso; revert h; simp; done) | skip) | (refine SL.W.guardB (fun h => ?_) (fun h => ?_) <;> (fail_if_success (have : h = (rfl : true = true) := rfl)) <;> (fail_if_success (have : h = (rfl : false = false) := rfl)))) | (refine SL.TK.lp ?_; first | (refine SL.TK.block ?_; refine SL.TK.loopD (stI b7 gb n ps Φ) ?_ ⟨f, bag, h, rfl, rfl, rfl⟩ (by first | ((repeat (first | exact SL.Sub.nil | refine SL.Sub.cons (by rfl) (by first | rfl | exact SL.int_eq (by omega)) ?_)); done) | fail) (EntD.cons (by first | ((repeat (first | exact SL.Pick.head | apply SL.Pick.tail)); done) | fail) (EntD.cons (by first | ((repeat (first | exact SL.Pick.head | apply SL.Pick.tail)); done) | fail) EntD.nil)))) | (refine SL.TK.is ?_; first | refine SL.TK.seq ?_ | refine SL.TK.region ?_ | refine SL.TK.regionD SL.mixed (by simp only [SL.falses] <;> rfl) ?_ | refine SL.TK.block ?_ | refine SL.TK.inBlock ?_ | refine SL.TK.skip ?_ | refine SL.TK.scope ?_ | refine SL.TK.inScope ?_ | refine SL.TK.label ?_ | (refine SL.TK.isExit ?_; refine SL.W.exit ?_) | refine SL.W.condT ?_ | refine SL.W.condF ?_ | (refine SL.W.condP (fun h => ?_) (fun h => ?_) <;> (fail_if_success (have : h = trivial := rfl)) <;> (fail_if_success (have : h = not_false := rfl)) <;> first | contradiction | (exfalso; omega) | (exfalso; revert h; simp; done) | skip) | refine SL.W.condB (fun h => ?_) (fun h => ?_)) | (refine SL.TD.is ?_; first | (refine SL.W.dfin ?_; simp only [List.append_nil, List.cons_append, List.nil_append]) | refine SL.W.dpass ?_ | refine SL.W.dpure ?_ | refine SL.W.dload ?_ | refine SL.W.dloadA ?_ | refine SL.W.dfrz ?_ | (refine SL.W.dthaw ?_; simp only [List.append_nil, List.cons_append, List.nil_append]) | (refine SL.W.dguardP (fun h => ?_) (fun h => ?_) <;> (fail_if_success (have : h = trivial := rfl)) <;> (fail_if_success (have : h = not_false := rfl)) <;> first | contradiction | (exfalso; omega) | (exfalso; revert h; simp; done) | skip) | (refine SL.W.dguardB (fun h => ?_) (fun h => ?_) <;> (fail_if_success (have : h = (rfl : true = true) := rfl)) <;> (fail_if_success (have : h = (rfl : false = false) := rfl))) | refine SL.W.done ?_ | refine SL.W.dtwo ?_ ?_ | refine SL.W.dthree ?_ ?_ ?_))
  clear h f bag
  rintro ρ L me ⟨f, bag, h, rfl, rfl, rfl⟩ ih
  obtain ⟨h1, h2, h3⟩ := hGH.out f bag h
  cases bag with
  | nil =>
    clear ih h1 h2
    refine SL.TK.openGr (by first | ((repeat (first | exact SL.Pick.head | apply SL.Pick.tail)); done) | fail) (fun lp lc M m bc ba ex bs g hM hb hm => ?_)
    have hm0 : m = 0 := hm
    clear hm
    subst hm0
    have hb := Lib.hid hb
    repeat' (first | (refine SL.TO.is ?_; first | (refine SL.W.quick ?_; first | refine SL.W.pass ?_ | refine SL.W.pv ?_ | refine SL.W.pv0 ?_) | refine SL.TO.nil ?_ | (refine SL.TO.nilD ?_; simp only [SL.setB]) | refine SL.W.pass ?_ | refine SL.W.pass0 ?_ | (refine SL.W.pure ?_; first | refine SL.W.pv ?_ | refine SL.W.pv0 ?_) | (refine SL.W.loud ?_; first | refine SL.W.load ?_ | refine SL.W.loadA ?_ | refine SL.W.store ?_ | refine SL.W.storeA ?_ | (refine SL.W.box ?_; intro b) | (refine SL.W.alloc ?_; intro b) | (refine SL.W.buildSlice ?_; intro b) | (refine SL.W.append ?_; intro a cap) | refine SL.W.bytesToStr ?_ | refine SL.W.pvn (SL.PV.toIntC (by rfl) (by first | exact SL.wrap_i64 (by omega) | exact SL.wrap_u8 (by omega) | exact SL.wrap_u32 (by omega) | exact SL.wrap_u64 (by omega) | rfl)) ?_ | (refine SL.W.makeSlice ?_; intro b)) | (refine SL.W.guardP (fun h => ?_) (fun h => ?_) <;> (fail_if_success (have : h = trivial := rfl)) <;> (fail_if_success (have : h = not_false := rfl)) <;> first | contradiction | (exfalso; omega) | (exfalso; revert h; simp; done) | skip) | (refine SL.W.guardB (fun h => ?_) (fun h => ?_) <;> (fail_if_success (have : h = (rfl : true = true) := rfl)) <;> (fail_if_success (have : h = (rfl : false = false) := rfl)))) | (refine SL.TK.is ?_; first | refine SL.TK.seq ?_ | refine SL.TK.region ?_ | refine SL.TK.regionD SL.mixed (by simp only [SL.falses] <;> rfl) ?_ | refine SL.TK.block ?_ | refine SL.TK.inBlock ?_ | refine SL.TK.skip ?_ | refine SL.TK.scope ?_ | refine SL.TK.inScope ?_ | refine SL.TK.label ?_ | (refine SL.TK.isExit ?_; refine SL.W.exit ?_) | refine SL.W.condT ?_ | refine SL.W.condF ?_ | (refine SL.W.condP (fun h => ?_) (fun h => ?_) <;> (fail_if_success (have : h = trivial := rfl)) <;> (fail_if_success (have : h = not_false := rfl)) <;> first | contradiction | (exfalso; omega) | (exfalso; revert h; simp; done) | skip) | refine SL.W.condB (fun h => ?_) (fun h => ?_)) | (refine SL.TD.is ?_; first | (refine SL.W.dfin ?_; simp only [List.append_nil, List.cons_append, List.nil_append]) | refine SL.W.dpass ?_ | refine SL.W.dpure ?_ | refine SL.W.dload ?_ | refine SL.W.dloadA ?_ | refine SL.W.dfrz ?_ | (refine SL.W.dthaw ?_; simp only [List.append_nil, List.cons_append, List.nil_append]) | (refine SL.W.dguardP (fun h => ?_) (fun h => ?_) <;> (fail_if_success (have : h = trivial := rfl)) <;> (fail_if_success (have : h = not_false := rfl)) <;> first | contradiction | (exfalso; omega) | (exfalso; revert h; simp; done) | skip) | (refine SL.W.dguardB (fun h => ?_) (fun h => ?_) <;> (fail_if_success (have : h = (rfl : true = true) := rfl)) <;> (fail_if_success (have : h = (rfl : false = false) := rfl))) | refine SL.W.done ?_ | refine SL.W.dtwo ?_ ?_ | refine SL.W.dthree ?_ ?_ ?_))
    all_goals exact SL.TK.retD Try.func41 (SL.Res.one rfl (by rfl)) ⟨rfl, f, h, rfl⟩ (EntD.cons (by first | ((repeat (first | exact SL.Pick.head | apply SL.Pick.tail)); done) | fail) (EntD.frm (pre := [SL.blk gb 77 [.slice (some ⟨lp, 0, none⟩) M lc, .slice ba 0 bc], SL.blk lp 87 ((lsF n ps f).map ptrV ++ ex), CosAt (lsF n ps f), own 85 21 ba 0 bc bs, RO g]) (by first | ((repeat (first | exact SL.Frm.nil | exact SL.Frm.refl | (apply SL.Frm.cons; repeat (first | exact SL.Pick.head | apply SL.Pick.tail)))); done) | fail) (gr_shut hM hb.out rfl) EntD.nil))
  | cons x rest =>
    obtain ⟨t, mg⟩ := x
    have hwl := wt_len ((t, mg) :: rest)
    have hdo := does_spec gb ps h1 (by omega) 1 0 (by omega)
    rw [doesR_head] at hdo
    have hcl := (come_h h1 h2).2
    have hn := hSH.out f t mg rest h
    obtain ⟨R, hR⟩ : ∃ R, R = comeR p f rest t mg := ⟨_, rfl⟩
    rw [← hR] at hdo hcl hn
    obtain ⟨f2, bag2⟩ := R
    simp only at hdo hcl hn
    have hdo := Lib.hid hdo
    have hcl := Lib.hid hcl
    clear hR h h1 h2 h3 hwl
    refine SL.TK.openGr (by first | ((repeat (first | exact SL.Pick.head | apply SL.Pick.tail)); done) | fail) (fun lp lc M m bc ba ex bs g hM hb hm => ?_)
    have hm0 : 0 < m := by rw [hm]; simp
    have hfin : Hid (∀ hh, seps [SL.blk gb 77 [.slice (some ⟨lp, 0, none⟩) M lc, .slice ba m bc], SL.blk lp 87 ((lsF n ps f).map ptrV ++ ex), CosAt (lsF n ps f), own 85 21 ba m bc bs, RO g] hh → GroupAt gb (lsF n ps f) ((t, mg) :: rest) hh) := Lib.hid fun hh x => gr_shut hM hb hm hh x
    clear hM hb hm
    repeat' (first | (refine SL.TO.is ?_; first | (refine SL.W.quick ?_; first | refine SL.W.pass ?_ | refine SL.W.pv ?_ | refine SL.W.pv0 ?_) | (refine SL.TO.door (o := ⟨_, .call _, _, _, _, _⟩) ?_; first | (refine SL.TO.door (o := ⟨_, .call ⟨.value (.func 38), _, _⟩, _, _, _, _⟩) ?_; first | (refine SL.W.call (hdo.out) ?_; rintro _ _ ⟨rfl, rfl⟩; try simp only [List.cons_append, List.nil_append]))) | refine SL.TO.nil ?_ | (refine SL.TO.nilD ?_; simp only [SL.setB]) | refine SL.W.pass ?_ | refine SL.W.pass0 ?_ | (refine SL.W.pure ?_; first | refine SL.W.pv ?_ | refine SL.W.pv0 ?_) | (refine SL.W.loud ?_; first | refine SL.W.load ?_ | refine SL.W.loadA ?_ | refine SL.W.store ?_ | refine SL.W.storeA ?_ | (refine SL.W.box ?_; intro b) | (refine SL.W.alloc ?_; intro b) | (refine SL.W.buildSlice ?_; intro b) | (refine SL.W.append ?_; intro a cap) | refine SL.W.bytesToStr ?_ | refine SL.W.pvn (SL.PV.toIntC (by rfl) (by first | exact SL.wrap_i64 (by omega) | exact SL.wrap_u8 (by omega) | exact SL.wrap_u32 (by omega) | exact SL.wrap_u64 (by omega) | rfl)) ?_ | (refine SL.W.makeSlice ?_; intro b)) | (refine SL.W.guardP (fun h => ?_) (fun h => ?_) <;> (fail_if_success (have : h = trivial := rfl)) <;> (fail_if_success (have : h = not_false := rfl)) <;> first | contradiction | (exfalso; omega) | (exfalso; revert h; simp; done) | skip) | (refine SL.W.guardB (fun h => ?_) (fun h => ?_) <;> (fail_if_success (have : h = (rfl : true = true) := rfl)) <;> (fail_if_success (have : h = (rfl : false = false) := rfl)))) | (refine SL.TK.is ?_; first | (refine SL.TK.atR (id := 2) ?_; refine SL.TK.entD (EntD.frm (pre := [SL.blk gb 77 [.slice (some ⟨lp, 0, none⟩) M lc, .slice ba m bc], SL.blk lp 87 ((lsF n ps f).map ptrV ++ ex), CosAt (lsF n ps f), own 85 21 ba m bc bs, RO g]) (by first | ((repeat (first | exact SL.Frm.nil | exact SL.Frm.refl | (apply SL.Frm.cons; repeat (first | exact SL.Pick.head | apply SL.Pick.tail)))); done) | fail) hfin.out EntD.refl) ?_) | refine SL.TK.seq ?_ | refine SL.TK.region ?_ | refine SL.TK.regionD SL.mixed (by simp only [SL.falses] <;> rfl) ?_ | refine SL.TK.block ?_ | refine SL.TK.inBlock ?_ | refine SL.TK.skip ?_ | refine SL.TK.scope ?_ | refine SL.TK.inScope ?_ | refine SL.TK.label ?_ | (refine SL.TK.isExit ?_; refine SL.W.exit ?_) | refine SL.W.condT ?_ | refine SL.W.condF ?_ | (refine SL.W.condP (fun h => ?_) (fun h => ?_) <;> (fail_if_success (have : h = trivial := rfl)) <;> (fail_if_success (have : h = not_false := rfl)) <;> first | contradiction | (exfalso; omega) | (exfalso; revert h; simp; done) | skip) | refine SL.W.condB (fun h => ?_) (fun h => ?_)) | (refine SL.TD.is ?_; first | (refine SL.W.dfin ?_; simp only [List.append_nil, List.cons_append, List.nil_append]) | refine SL.W.dpass ?_ | refine SL.W.dpure ?_ | refine SL.W.dload ?_ | refine SL.W.dloadA ?_ | refine SL.W.dfrz ?_ | (refine SL.W.dthaw ?_; simp only [List.append_nil, List.cons_append, List.nil_append]) | (refine SL.W.dguardP (fun h => ?_) (fun h => ?_) <;> (fail_if_success (have : h = trivial := rfl)) <;> (fail_if_success (have : h = not_false := rfl)) <;> first | contradiction | (exfalso; omega) | (exfalso; revert h; simp; done) | skip) | (refine SL.W.dguardB (fun h => ?_) (fun h => ?_) <;> (fail_if_success (have : h = (rfl : true = true) := rfl)) <;> (fail_if_success (have : h = (rfl : false = false) := rfl))) | refine SL.W.done ?_ | refine SL.W.dtwo ?_ ?_ | refine SL.W.dthree ?_ ?_ ?_))
    all_goals exact SL.TK.againD ih ⟨f2, bag2, hn, rfl, rfl, rfl⟩ (by first | ((repeat (first | exact SL.Sub.nil | refine SL.Sub.cons (by rfl) (by first | rfl | exact SL.int_eq (by omega)) ?_)); done) | fail) (EntD.cons (by first | ((repeat (first | exact SL.Pick.head | apply SL.Pick.tail)); done) | fail) (EntD.cons (by first | ((repeat (first | exact SL.Pick.head | apply SL.Pick.tail)); done) | fail) EntD.nil)) (by have := hcl.out; omega)
/-- what stays so while all comes: so many entries -/
def Ph (n v p K N : Nat) (f : Nat → Cs) (bag : List (Nat × Mg)) : Prop := GInv n v p f bag ∧ HInv n p f bag ∧ wt bag ≤ K ∧ (f p).es.length = N
theorem come_plen {n v p : Nat} {f : Nat → Cs} {rest : List (Nat × Mg)} {t : Nat} {m : Mg} (h : GInv n v p f ((t, m) :: rest)) (hH : HInv n p f ((t, m) :: rest)) : ((comeR p f rest t m).1 p).es.length = (f p).es.length := by
  have hp := h.pn
  rcases come_form h hH with ⟨k, h1, h2, h3, h4, h5, e⟩ | ⟨k, h1, h2, h5, e⟩ | ⟨k, rfl, b, h1, h2, h3, h4, h5, e⟩
  · rw [e]; show (up f t _ p).es.length = _; rw [up_other (fun c => h2 c.symm)]
  · rw [e]; show (up f t _ p).es.length = _; rw [up_other (fun c => h2 c.symm)]
  · rw [e]; show (up f t _ t).es.length = _; rw [up_same]; rfl
theorem Ph.come {n v p K N : Nat} {f : Nat → Cs} {rest : List (Nat × Mg)} {t : Nat} {m : Mg} (h : Ph n v p K N f ((t, m) :: rest)) : Ph n v p K N (comeR p f rest t m).1 (comeR p f rest t m).2 := by
  obtain ⟨h1, h2, h3, h4⟩ := h
  have a := come_h h1 h2
  exact ⟨(come_inv (h1.less (bag' := rest) fun x hx => List.mem_cons_of_mem _ hx) (h1.msg (t, m) (by simp))).1, a.1, by omega, by rw [come_plen h1 h2]; exact h4⟩
end SL
