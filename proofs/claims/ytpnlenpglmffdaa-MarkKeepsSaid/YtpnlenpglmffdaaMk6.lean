/-
  Rows of units that came in; the document's examples.
-/
import Derived.Test.YtpnlenpglmffdaaMk5
set_option linter.unusedVariables false
set_option linter.unusedSimpArgs false
set_option maxRecDepth 10000
namespace SL
open Go Go.Proofs Go.RowKit

theorem i64_of {n : Int} (h : (Lit.int .i64 n).wf = true) : I64 n := by
  simpa [Lit.wf, IntKind.min, IntKind.max, IntKind.signed, IntKind.bits, I64] using h
theorem u32_of {n : Int} (h : (Lit.int .u32 n).wf = true) : 0 ≤ n ∧ n ≤ 4294967295 := by
  simpa [Lit.wf, IntKind.min, IntKind.max, IntKind.signed, IntKind.bits] using h
theorem u8_of {n : Int} (h : (Lit.int .u8 n).wf = true) : 0 ≤ n ∧ n ≤ 255 := by
  simpa [Lit.wf, IntKind.min, IntKind.max, IntKind.signed, IntKind.bits] using h
theorem unit_of {W : World} {cs : List Value} (h : Rdb Try.prog W 57 cs) : ∃ u, cs = unV u := by
  obtain ⟨hl, hf⟩ := h.struct Try.underlying57
  simp only [List.mem_cons, List.not_mem_nil, or_false, forall_eq_or_imp, forall_eq] at hf
  obtain ⟨h0, h1, h2, h3⟩ := hf
  have l57 : Try.prog.cellsOf 57 = 5 := by kernel_rfl
  have l3 : Try.prog.cellsOf 3 = 1 := by kernel_rfl
  have l43 : Try.prog.cellsOf 43 = 1 := by kernel_rfl
  have l55 : Try.prog.cellsOf 55 = 2 := by kernel_rfl
  rw [l57] at hl
  match cs, hl with
  | [x, y, z, u, v], _ =>
    simp only [l3, l43, l55] at h0 h1 h2 h3
    obtain ⟨n0, e0, _⟩ := h0.int Try.underlying3
    obtain ⟨n1, e1, _⟩ := h1.int Try.underlying3
    obtain ⟨n2, e2, _⟩ := h2.int Try.underlying43
    obtain ⟨hl2, hf2⟩ := h3.struct Try.underlying55
    simp only [List.mem_cons, List.not_mem_nil, or_false, forall_eq_or_imp, forall_eq] at hf2
    obtain ⟨h4, h5⟩ := hf2
    have l31 : Try.prog.cellsOf 31 = 1 := by kernel_rfl
    have l53 : Try.prog.cellsOf 53 = 1 := by kernel_rfl
    simp only [l31, l53] at h4 h5
    obtain ⟨n3, e3, _⟩ := h4.int Try.underlying31
    obtain ⟨n4, e4, _⟩ := h5.int Try.underlying53
    simp at e0 e1 e2 e3 e4
    subst e0 e1 e2 e3 e4
    exact ⟨⟨n0, n1, n2, n3, n4⟩, rfl⟩
/-- a slice of units, whose cells read so -/
theorem row_of {W : World} {a : Option Addr} {len cap : Nat} (h : Rdb Try.prog W 24 [.slice a len cap]) : ∃ us : List Un, us.length = len ∧ len ≤ cap ∧ RowX (SL.orig W) a us := by
  have l57 : Try.prog.cellsOf 57 = 5 := by kernel_rfl
  rcases h.slice Try.underlying24 with h1 | ⟨q, len', cap', h1, h2, h3, h4⟩
  · simp at h1
    obtain ⟨rfl, rfl, rfl⟩ := h1
    exact ⟨[], rfl, Nat.le_refl _, .empty⟩
  · simp at h1
    obtain ⟨rfl, rfl, rfl⟩ := h1
    have hb : ∀ i, i < len → ∃ u : Un, ∀ (j : Nat) (x : Value), (unV u)[j]? = some x → W.cell? ((q.add (i * 5)).add j) = some x := by
      intro i hi
      obtain ⟨es, hl, hcell, hr⟩ := h4 i (by omega)
      obtain ⟨u, rfl⟩ := unit_of hr
      refine ⟨u, fun j x hj => ?_⟩
      rw [add_add, ← l57]
      exact hcell j x hj
    have hf : ∃ f : Nat → Un, ∀ i, i < len → ∀ (j : Nat) (x : Value), (unV (f i))[j]? = some x → W.cell? ((q.add (i * 5)).add j) = some x :=
      ⟨fun i => if h : i < len then (hb i h).choose else ⟨0, 0, 0, 0, 0⟩, fun i hi => by simp only [dif_pos hi]; exact (hb i hi).choose_spec⟩
    obtain ⟨f, hf⟩ := hf
    refine ⟨(List.range len).map f, by simp, h2, fun hq => (by cases hq), ?_⟩
    rintro q' hq i u hi
    cases hq
    rw [List.getElem?_map, Option.map_eq_some_iff] at hi
    obtain ⟨i', hi', rfl⟩ := hi
    have hlt : i < len := by
      have := (List.getElem?_eq_some_iff.1 hi').1
      simpa using this
    rw [List.getElem?_range hlt] at hi'
    simp at hi'
    subst hi'
    exact RdA.orig (hf i hlt)
theorem row_in {W : World} {base : Nat} {H : Type} {enc : TypeId × Value → H} {v : Value} {d : DataW H} {ps : List MemPlace}
    (hval : Value.okWide Try.prog W .any base 24 v) (h : DataW.Trod enc Try.prog W 0 (fun _ => true) true 24 v d ps) :
    ∃ (a : Option Addr) (cap : Nat) (us : List Un), v = .slice a us.length cap ∧ us.length ≤ cap ∧ RowX (SL.orig W) a us := by
  obtain ⟨a, len, cap, rfl⟩ := Go.WideShapes.okWide_slice Try.underlying24 hval
  obtain ⟨us, rfl, h1, h2⟩ := row_of (Rdb.of h)
  exact ⟨a, cap, us, rfl, h1, h2⟩
/-- a row of one unit that the call has built -/
theorem row_one (b n cap : Nat) (u : Un) : RowX (own 57 5 (some ⟨b, 0, none⟩) n cap (unV u)) (some ⟨b, 0, none⟩) [u] := by
  refine ⟨fun e => (by cases e), fun q hq i x hi => ?_⟩
  cases hq
  have hi0 : i = 0 := by
    have := (List.getElem?_eq_some_iff.1 hi).1
    simpa using this
  subst hi0
  simp at hi
  subst hi
  rw [add_off]
  refine RdA.own (off := 0 + 0 * 5) ⟨rfl, fun j v hj => by simpa using hj⟩
attribute [local irreducible] SL.TK SL.TO SL.TD SL.PV SL.Pick SL.Frm SL.Ent SL.Sub SL.EvAll SL.seps SL.sep SL.Cut SL.PutAt SL.blk SL.EvP SL.Fill SL.Src SL.EntD SL.own SL.ex SL.fact SL.orig

def uI : Un := ⟨1, 2, 120, 0, 0⟩
def uD : Un := ⟨2, 0, 0, 0, 0⟩
theorem mkAwake_spec : Spec Try.prog 13 [] [] (fun r L => r = .bool true ∧ L = []) := by
  have hnew : Spec Try.prog 12 [.int .i64 3] [] (fun r L => ∃ nb, r = .tuple #[.pointer (some ⟨nb, 0, none⟩), .int .i64 0] ∧ L = [MarksAt nb 3 []]) := by
    refine SL.Spec.postD (mkNew_spec 3) ?_
    rintro v L (⟨h, _⟩ | ⟨_, nb, rfl, rfl⟩)
    · omega
    · exact ⟨_, ⟨nb, rfl, rfl⟩, EntD.refl⟩
  have hs1 (nb : Nat) : Spec Try.prog 14 [.pointer (some ⟨nb, 0, none⟩), .int .u32 1, .int .i64 2] [MarksAt nb 3 []] (fun r L => r = .int .i64 0 ∧ L = [MarksAt nb 3 [(1, 2)]]) := mkSet_spec nb 3 1 2 []
  have hs2 (nb : Nat) : Spec Try.prog 14 [.pointer (some ⟨nb, 0, none⟩), .int .u32 2, .int .i64 4] [MarksAt nb 3 [(1, 2)]] (fun r L => r = .int .i64 30 ∧ L = [MarksAt nb 3 [(1, 2)]]) := mkSet_spec nb 3 2 4 [(1, 2)]
  have hg1 (nb b : Nat) : Spec Try.prog 16 [.pointer (some ⟨nb, 0, none⟩), .slice (some ⟨b, 0, none⟩) 1 1] [MarksAt nb 3 [(1, 2)], own 57 5 (some ⟨b, 0, none⟩) 1 1 (unV uI)] (fun r L => r = .int .i64 0 ∧ L = [MarksAt nb 4 [(1, 3)], own 57 5 (some ⟨b, 0, none⟩) 1 1 (unV uI)]) :=
    mkGo_spec (some ⟨b, 0, none⟩) 1 nb 3 [uI] [(1, 2)] (row_one b 1 1 uI) (by decide) (by decide) (by simp)
  have hg2 (nb b : Nat) : Spec Try.prog 16 [.pointer (some ⟨nb, 0, none⟩), .slice (some ⟨b, 0, none⟩) 1 1] [MarksAt nb 4 [(1, 3)], own 57 5 (some ⟨b, 0, none⟩) 1 1 (unV uD)] (fun r L => r = .int .i64 0 ∧ L = [MarksAt nb 3 [(1, 2)], own 57 5 (some ⟨b, 0, none⟩) 1 1 (unV uD)]) :=
    mkGo_spec (some ⟨b, 0, none⟩) 1 nb 4 [uD] [(1, 3)] (row_one b 1 1 uD) (by decide) (by decide) (by simp)
  have hq1 (nb : Nat) : Spec Try.prog 17 [.pointer (some ⟨nb, 0, none⟩), .int .u32 1] [MarksAt nb 4 [(1, 3)]] (fun r L => r = .tuple #[.int .i64 3, .bool true] ∧ L = [MarksAt nb 4 [(1, 3)]]) := mkGet_spec nb 4 1 [(1, 3)]
  have hq2 (nb : Nat) : Spec Try.prog 17 [.pointer (some ⟨nb, 0, none⟩), .int .u32 1] [MarksAt nb 3 [(1, 2)]] (fun r L => r = .tuple #[.int .i64 2, .bool true] ∧ L = [MarksAt nb 3 [(1, 2)]]) := mkGet_spec nb 3 1 [(1, 2)]
  refine SL.Spec.of_TK Go.Proofs.Try.func13 rfl rfl SL.call13 rfl ?_
  repeat' (first | (refine SL.TO.is ?_; first | (refine SL.TO.door (o := ⟨_, .call ⟨.value (.func 12), _, _⟩, _, _, _, _⟩) ?_; first | (refine SL.W.call (hnew) ?_; rintro _ _ ⟨nb, rfl, rfl⟩; try simp only [List.cons_append, List.nil_append])) | (refine SL.TO.door (o := ⟨_, .call ⟨.value (.func 14), _, _⟩, _, _, _, _⟩) ?_; first | (refine SL.W.call (hs1 _) ?_; rintro _ _ ⟨rfl, rfl⟩; try simp only [List.cons_append, List.nil_append]) | (refine SL.W.call (hs2 _) ?_; rintro _ _ ⟨rfl, rfl⟩; try simp only [List.cons_append, List.nil_append])) | (refine SL.TO.door (o := ⟨_, .call ⟨.value (.func 16), _, _⟩, _, _, _, _⟩) ?_; first | (refine SL.W.call (hg1 _ _) ?_; rintro _ _ ⟨rfl, rfl⟩; try simp only [List.cons_append, List.nil_append]) | (refine SL.W.call (hg2 _ _) ?_; rintro _ _ ⟨rfl, rfl⟩; try simp only [List.cons_append, List.nil_append])) | (refine SL.TO.door (o := ⟨_, .call ⟨.value (.func 17), _, _⟩, _, _, _, _⟩) ?_; first | (refine SL.W.call (hq1 _) ?_; rintro _ _ ⟨rfl, rfl⟩; try simp only [List.cons_append, List.nil_append]) | (refine SL.W.call (hq2 _) ?_; rintro _ _ ⟨rfl, rfl⟩; try simp only [List.cons_append, List.nil_append])) | (refine SL.TO.door (o := ⟨_, .call ⟨.value (.func 19), _, _⟩, _, _, _, _⟩) ?_; first | (refine SL.W.call (mkLong_spec _ _ _) ?_; rintro _ _ ⟨rfl, rfl⟩; try simp only [List.cons_append, List.nil_append])) | refine SL.TO.nil ?_ | (refine SL.TO.nilD ?_; simp only [SL.setB]) | refine SL.W.pass ?_ | refine SL.W.pass0 ?_ | (refine SL.W.pure ?_; first | refine SL.W.pv ?_ | refine SL.W.pv0 ?_ | refine SL.W.lenMp ?_) | (refine SL.W.loud ?_; first | refine SL.W.load ?_ | refine SL.W.loadA ?_ | refine SL.W.store ?_ | refine SL.W.storeA ?_ | (refine SL.W.box ?_; intro b) | (refine SL.W.alloc ?_; intro b) | (refine SL.W.buildSlice ?_; intro b) | (refine SL.W.append ?_; intro a cap) | refine SL.W.bytesToStr ?_ | refine SL.W.pvn (SL.PV.toIntC (by rfl) (by first | exact SL.wrap_i64 (by omega) | exact SL.wrap_u8 (by omega) | exact SL.wrap_u32 (by omega) | exact SL.wrap_u64 (by omega) | rfl)) ?_ | (refine SL.W.makeSlice ?_; intro b) | refine SL.W.lookupOk ?_ | refine SL.W.lookup ?_ | (refine SL.W.makeMap ?_; intro b) | refine SL.W.mapUpdate ?_ | (refine SL.W.mapEntry ?_; intro stamp) | refine SL.W.entryStore ?_ | (refine SL.W.range ?_; intro it) | refine SL.W.delete ?_) | (refine SL.W.guardP (fun h => ?_) (fun h => ?_) <;> (fail_if_success (have : h = trivial := rfl)) <;> (fail_if_success (have : h = not_false := rfl)) <;> first | contradiction | (exfalso; omega) | (exfalso; revert h; simp; done) | skip) | (refine SL.W.guardB (fun h => ?_) (fun h => ?_) <;> (fail_if_success (have : h = (rfl : true = true) := rfl)) <;> (fail_if_success (have : h = (rfl : false = false) := rfl)))) | (refine SL.TK.is ?_; first | refine SL.TK.seq ?_ | refine SL.TK.region ?_ | refine SL.TK.regionD SL.mixed (by simp only [SL.falses] <;> rfl) ?_ | refine SL.TK.block ?_ | refine SL.TK.inBlock ?_ | refine SL.TK.skip ?_ | refine SL.TK.scope ?_ | refine SL.TK.inScope ?_ | refine SL.TK.label ?_ | refine SL.W.exit ?_ | refine SL.W.condT ?_ | refine SL.W.condF ?_ | (refine SL.W.condP (fun h => ?_) (fun h => ?_) <;> (fail_if_success (have : h = trivial := rfl)) <;> (fail_if_success (have : h = not_false := rfl)) <;> first | contradiction | (exfalso; omega) | (exfalso; revert h; simp; done) | skip) | refine SL.W.condB (fun h => ?_) (fun h => ?_)) | (refine SL.TD.is ?_; first | (refine SL.W.dfin ?_; simp only [List.append_nil, List.cons_append, List.nil_append]) | refine SL.W.dpass ?_ | refine SL.W.dpure ?_ | refine SL.W.dload ?_ | refine SL.W.dloadA ?_ | refine SL.W.dfrz ?_ | (refine SL.W.dthaw ?_; simp only [List.append_nil, List.cons_append, List.nil_append]) | (refine SL.W.dguardP (fun h => ?_) (fun h => ?_) <;> (fail_if_success (have : h = trivial := rfl)) <;> (fail_if_success (have : h = not_false := rfl)) <;> first | contradiction | (exfalso; omega) | (exfalso; revert h; simp; done) | skip) | (refine SL.W.dguardB (fun h => ?_) (fun h => ?_) <;> (fail_if_success (have : h = (rfl : true = true) := rfl)) <;> (fail_if_success (have : h = (rfl : false = false) := rfl))) | refine SL.W.done ?_ | refine SL.W.dtwo ?_ ?_ | refine SL.W.dthree ?_ ?_ ?_))
  exact SL.TK.retD Try.func13 (SL.Res.one rfl (by rfl)) ⟨rfl, rfl⟩ EntD.nil
end SL
