/-
  The given statement 'LeasePlays': leases under any calls tell what the document's tell; copies live apart.
  Conditions: none beyond those of the given statement.
-/
import Derived.Test.YtpnlenpglmffdaaLs19
import Derived.Test.YtpnlenpglmffdaaRows
set_option linter.unusedVariables false
set_option linter.unusedSimpArgs false
set_option maxRecDepth 10000
namespace SL
open Go Go.Proofs Go.RowKit Go.ChangeShapes Go.WideShapes Go.ChangeAt Go.WideElems

section
variable {P : Program} {fid : Fm} {n : Nat} {post : Post} {k : List Item} {ρ : Env} {L R : List HProp} {ops : List Oper} {ls : List Bool}
theorem TD.slot {d : Nat} {v v' : Value} (h : look d ρ = some v) (e : v = v') (ht : TD P fid n post ops ls R k ((d, v') :: ρ) L) : TD P fid n post ops ls R k ρ L := by
  subst e
  have hs : Sub ρ ((d, v) :: ρ) := Sub.cons h rfl (Sub.refl ρ)
  intro w0 F a w s gr st hsf
  exact ht w0 F a w s (gr.sub hs) st hsf
end
theorem wf_u64 {z : Int} (h : (Lit.int .u64 z).wf = true) : 0 ≤ z ∧ z ≤ 18446744073709551615 := by
  simp [Lit.wf, IntKind.min, IntKind.max, IntKind.signed, IntKind.bits] at h
  omega
theorem lact_of {W : World} {cs : List Value} (h : Rdb Try.prog W 87 cs) : ∃ A : LAct, cs = laC A ∧ (0 ≤ A.2.2 ∧ A.2.2 ≤ 18446744073709551615) := by
  obtain ⟨hl, hf⟩ := h.struct Try.underlying87
  simp only [List.mem_cons, List.not_mem_nil, or_false, forall_eq_or_imp, forall_eq] at hf
  obtain ⟨h0, h1, h2⟩ := hf
  have lO : Try.prog.cellsOf 87 = 3 := by kernel_rfl
  have l3 : Try.prog.cellsOf 3 = 1 := by kernel_rfl
  have l4 : Try.prog.cellsOf 53 = 1 := by kernel_rfl
  have l5 : Try.prog.cellsOf 31 = 1 := by kernel_rfl
  rw [lO] at hl
  match cs, hl with
  | [x, y, z], _ =>
    simp only [l3, l4, l5] at h0 h1 h2
    obtain ⟨n0, e0, _⟩ := h0.int Try.underlying3
    obtain ⟨n1, e1, _⟩ := h1.int Try.underlying31
    obtain ⟨n2, e2, w2⟩ := h2.int Try.underlying53
    simp at e0 e1 e2
    subst e0 e1 e2
    exact ⟨(n0, n1, n2), rfl, wf_u64 w2⟩
theorem lease_of {W : World} {cs : List Value} (h : Rdb Try.prog W 82 cs) : ∃ A : Int × Int, cs = [.int .u32 A.1, .int .u64 A.2] ∧ True := by
  obtain ⟨hl, hf⟩ := h.struct Try.underlying82
  simp only [List.mem_cons, List.not_mem_nil, or_false, forall_eq_or_imp, forall_eq] at hf
  obtain ⟨h1, h2⟩ := hf
  have lO : Try.prog.cellsOf 82 = 2 := by kernel_rfl
  have l4 : Try.prog.cellsOf 53 = 1 := by kernel_rfl
  have l5 : Try.prog.cellsOf 31 = 1 := by kernel_rfl
  rw [lO] at hl
  match cs, hl with
  | [y, z], _ =>
    simp only [l4, l5] at h1 h2
    obtain ⟨n1, e1, _⟩ := h1.int Try.underlying31
    obtain ⟨n2, e2, _⟩ := h2.int Try.underlying53
    simp at e1 e2
    subst e1 e2
    exact ⟨(n1, n2), rfl, trivial⟩
theorem bool_ne (B : Bool) : Value.bool (decide (¬ B = B)) = .bool false := by simp
attribute [local irreducible] SL.TK SL.TO SL.TD SL.PV SL.Pick SL.Frm SL.Ent SL.Sub SL.EvAll SL.seps SL.sep SL.Cut SL.PutAt SL.blk SL.EvP SL.Fill SL.Src SL.EntD SL.own SL.ex SL.fact SL.orig

/-! the row of leases -/
def lmI (W : World) (p : Option Addr) (n cap : Nat) (s1 : Value) (T : As2) (ρ : Env) (L : List HProp) (me : Nat) : Prop := ∃ (i c2 : Nat) (a2 : Option Addr), i ≤ n ∧
  ρ = [(0, .slice p n cap), (1, s1), (6, .int .i64 i), (5, .slice a2 i c2)] ∧ L = [SL.orig W, own 78 2 a2 i c2 (prC (T.take i))] ∧ me = n - i
theorem lp_mine {post : Post} {k : List Item} (W : World) (p : Option Addr) (n cap : Nat) (s1 : Value) (T : As2) (hT : T.length = n) (hn : n ≤ 20) (h0 : p = none → n = 0)
    (hc : ∀ q, p = some q → ∀ i x, T[i]? = some x → ∀ (j : Nat) (v : Value), [Value.int .u32 x.1, .int .u64 x.2][j]? = some v → W.cell? ((q.add (i * 2)).add j) = some v)
    (hK : ∀ (a2 : Option Addr) (c2 : Nat), TK Try.prog 9 Try.f9.ntmps post k [(0, .slice p n cap), (1, s1), (5, .slice a2 n c2)] [SL.orig W, own 78 2 a2 n c2 (prC T)]) :
    TK Try.prog 9 Try.f9.ntmps post (.code (loopAt Try.f9 0) :: k) [(0, .slice p n cap), (1, s1), (5, .slice none 0 0), (6, .int .i64 0)] [SL.orig W, own 78 2 none 0 0 []] := by
  have hKH := Lib.hid hK
  have hcH := Lib.hid hc
  clear hK hc
  refine SL.TK.block ?_
  refine SL.TK.loopD (lmI W p n cap s1 T) ?_ ⟨0, 0, none, Nat.zero_le _, rfl, rfl, rfl⟩ (by first | ((repeat (first | exact SL.Sub.nil | refine SL.Sub.cons (by rfl) (by first | rfl | exact SL.int_eq (by omega)) ?_)); done) | fail) EntD.refl
  rintro ρ L me ⟨i, c2, a2, hi, rfl, rfl, rfl⟩ ih
  by_cases hlt : i < n
  · obtain ⟨q, rfl⟩ : ∃ q, p = some q := by
      cases p with
      | none => have := h0 rfl; omega
      | some q => exact ⟨q, rfl⟩
    obtain ⟨x, hx⟩ : ∃ x, T[i]? = some x := ⟨_, List.getElem?_eq_getElem (by omega)⟩
    have cA := hcH.out q rfl i x hx
    have htk := Lib.hid (show prC (T.take (i + 1)) = prC (T.take i) ++ [.int .u32 x.1, .int .u64 x.2] by rw [List.take_add_one, hx]; exact prC_snoc _ _)
    obtain ⟨x1, x2⟩ := x
    dsimp only at cA htk
    obtain ⟨pc, hpc⟩ : ∃ pc, pc = prC (T.take i) := ⟨_, rfl⟩
    rw [← hpc] at htk ⊢
    have h1c : ∀ w ∈ [Value.int .u32 x1, .int .u64 x2], w.oneCell' = true := by simp [Value.oneCell']
    clear hKH hcH hx hpc h0
    repeat' (first | (refine SL.TO.is ?_; first | (refine SL.TO.door (o := ⟨_, .load _ _, _, _, _, _⟩) ?_; first | refine SL.W.loadOA cA rfl ?_) | refine SL.TO.nil ?_ | (refine SL.TO.nilD ?_; simp only [SL.setB]) | refine SL.W.pass ?_ | refine SL.W.pass0 ?_ | (refine SL.W.pure ?_; first | refine SL.W.pv ?_ | refine SL.W.pv0 ?_ | refine SL.W.lenMp ?_ | (refine SL.W.guardP (fun h => ?_) (fun h => ?_) <;> (fail_if_success (have : h = trivial := rfl)) <;> (fail_if_success (have : h = not_false := rfl)) <;> first | contradiction | (exfalso; omega) | (exfalso; revert h; simp; done) | skip) | (refine SL.W.guardB (fun h => ?_) (fun h => ?_) <;> (fail_if_success (have : h = (rfl : true = true) := rfl)) <;> (fail_if_success (have : h = (rfl : false = false) := rfl)))) | (refine SL.W.loud ?_; first | refine SL.W.load ?_ | refine SL.W.loadA ?_ | refine SL.W.store ?_ | refine SL.W.storeA ?_ | (refine SL.W.box ?_; intro b) | (refine SL.W.alloc ?_; intro b) | (refine SL.W.buildSlice ?_; intro b) | (refine SL.W.append ?_; intro a cap) | refine SL.W.bytesToStr ?_ | refine SL.W.pvn (SL.PV.toIntC (by rfl) (by first | exact SL.wrap_i64 (by omega) | exact SL.wrap_u8 (by omega) | exact SL.wrap_u32 (by omega) | exact SL.wrap_u64 (by omega) | rfl)) ?_ | (refine SL.W.makeSlice ?_; intro b) | refine SL.W.lookupOk ?_ | refine SL.W.lookup ?_ | (refine SL.W.makeMap ?_; intro b) | refine SL.W.mapUpdate ?_ | (refine SL.W.mapEntry ?_; intro stamp) | refine SL.W.entryStore ?_ | (refine SL.W.range ?_; intro it) | refine SL.W.delete ?_ | (refine SL.W.guardP (fun h => ?_) (fun h => ?_) <;> (fail_if_success (have : h = trivial := rfl)) <;> (fail_if_success (have : h = not_false := rfl)) <;> first | contradiction | (exfalso; omega) | (exfalso; revert h; simp; done) | skip) | (refine SL.W.guardB (fun h => ?_) (fun h => ?_) <;> (fail_if_success (have : h = (rfl : true = true) := rfl)) <;> (fail_if_success (have : h = (rfl : false = false) := rfl))))) | (refine SL.TK.is ?_; first | refine SL.TK.seq ?_ | refine SL.TK.region ?_ | refine SL.TK.regionD SL.mixed (by simp only [SL.falses] <;> rfl) ?_ | refine SL.TK.block ?_ | refine SL.TK.inBlock ?_ | refine SL.TK.skip ?_ | refine SL.TK.scope ?_ | refine SL.TK.inScope ?_ | refine SL.TK.label ?_ | refine SL.W.exit ?_ | refine SL.W.condT ?_ | refine SL.W.condF ?_ | (refine SL.W.condP (fun h => ?_) (fun h => ?_) <;> (fail_if_success (have : h = trivial := rfl)) <;> (fail_if_success (have : h = not_false := rfl)) <;> first | contradiction | (exfalso; omega) | (exfalso; revert h; simp; done) | skip) | refine SL.W.condB (fun h => ?_) (fun h => ?_)) | (refine SL.TD.is ?_; first | (refine SL.W.dfin ?_; simp only [List.append_nil, List.cons_append, List.nil_append]) | refine SL.W.dpass ?_ | refine SL.W.dpure ?_ | refine SL.W.dload ?_ | refine SL.W.dloadA ?_ | refine SL.W.dfrz ?_ | (refine SL.W.dthaw ?_; simp only [List.append_nil, List.cons_append, List.nil_append]) | (refine SL.W.dguardP (fun h => ?_) (fun h => ?_) <;> (fail_if_success (have : h = trivial := rfl)) <;> (fail_if_success (have : h = not_false := rfl)) <;> first | contradiction | (exfalso; omega) | (exfalso; revert h; simp; done) | skip) | (refine SL.W.dguardB (fun h => ?_) (fun h => ?_) <;> (fail_if_success (have : h = (rfl : true = true) := rfl)) <;> (fail_if_success (have : h = (rfl : false = false) := rfl))) | refine SL.W.done ?_ | refine SL.W.dtwo ?_ ?_ | refine SL.W.dthree ?_ ?_ ?_))
    refine SL.TK.againD ih ⟨i + 1, cap, a, by omega, rfl, rfl, rfl⟩ (by first | ((repeat (first | exact SL.Sub.nil | refine SL.Sub.cons (by rfl) (by first | rfl | exact SL.int_eq (by omega)) ?_)); done) | fail) ?_ (by omega)
    rw [htk.out]
    exact EntD.cons (by first | ((repeat (first | exact SL.Pick.head | apply SL.Pick.tail)); done) | fail) (EntD.cons (by first | ((repeat (first | exact SL.Pick.head | apply SL.Pick.tail)); done) | fail) EntD.nil)
  · have hin : i = n := by omega
    subst hin
    rw [List.take_of_length_le (by omega)]
    clear ih hcH
    repeat' (first | (refine SL.TO.is ?_; first | refine SL.TO.nil ?_ | (refine SL.TO.nilD ?_; simp only [SL.setB]) | refine SL.W.pass ?_ | refine SL.W.pass0 ?_ | (refine SL.W.pure ?_; first | refine SL.W.pv ?_ | refine SL.W.pv0 ?_ | refine SL.W.lenMp ?_ | (refine SL.W.guardP (fun h => ?_) (fun h => ?_) <;> (fail_if_success (have : h = trivial := rfl)) <;> (fail_if_success (have : h = not_false := rfl)) <;> first | contradiction | (exfalso; omega) | (exfalso; revert h; simp; done) | skip) | (refine SL.W.guardB (fun h => ?_) (fun h => ?_) <;> (fail_if_success (have : h = (rfl : true = true) := rfl)) <;> (fail_if_success (have : h = (rfl : false = false) := rfl)))) | (refine SL.W.loud ?_; first | refine SL.W.load ?_ | refine SL.W.loadA ?_ | refine SL.W.store ?_ | refine SL.W.storeA ?_ | (refine SL.W.box ?_; intro b) | (refine SL.W.alloc ?_; intro b) | (refine SL.W.buildSlice ?_; intro b) | (refine SL.W.append ?_; intro a cap) | refine SL.W.bytesToStr ?_ | refine SL.W.pvn (SL.PV.toIntC (by rfl) (by first | exact SL.wrap_i64 (by omega) | exact SL.wrap_u8 (by omega) | exact SL.wrap_u32 (by omega) | exact SL.wrap_u64 (by omega) | rfl)) ?_ | (refine SL.W.makeSlice ?_; intro b) | refine SL.W.lookupOk ?_ | refine SL.W.lookup ?_ | (refine SL.W.makeMap ?_; intro b) | refine SL.W.mapUpdate ?_ | (refine SL.W.mapEntry ?_; intro stamp) | refine SL.W.entryStore ?_ | (refine SL.W.range ?_; intro it) | refine SL.W.delete ?_ | (refine SL.W.guardP (fun h => ?_) (fun h => ?_) <;> (fail_if_success (have : h = trivial := rfl)) <;> (fail_if_success (have : h = not_false := rfl)) <;> first | contradiction | (exfalso; omega) | (exfalso; revert h; simp; done) | skip) | (refine SL.W.guardB (fun h => ?_) (fun h => ?_) <;> (fail_if_success (have : h = (rfl : true = true) := rfl)) <;> (fail_if_success (have : h = (rfl : false = false) := rfl))))) | (refine SL.TK.is ?_; first | (refine SL.TK.weakD (by first | ((repeat (first | exact SL.Sub.nil | refine SL.Sub.cons (by rfl) (by first | rfl | exact SL.int_eq (by omega)) ?_)); done) | fail) EntD.refl (hKH.out _ _)) | refine SL.TK.seq ?_ | refine SL.TK.region ?_ | refine SL.TK.regionD SL.mixed (by simp only [SL.falses] <;> rfl) ?_ | refine SL.TK.block ?_ | refine SL.TK.inBlock ?_ | refine SL.TK.skip ?_ | refine SL.TK.scope ?_ | refine SL.TK.inScope ?_ | refine SL.TK.label ?_ | refine SL.W.exit ?_ | refine SL.W.condT ?_ | refine SL.W.condF ?_ | (refine SL.W.condP (fun h => ?_) (fun h => ?_) <;> (fail_if_success (have : h = trivial := rfl)) <;> (fail_if_success (have : h = not_false := rfl)) <;> first | contradiction | (exfalso; omega) | (exfalso; revert h; simp; done) | skip) | refine SL.W.condB (fun h => ?_) (fun h => ?_)) | (refine SL.TD.is ?_; first | (refine SL.W.dfin ?_; simp only [List.append_nil, List.cons_append, List.nil_append]) | refine SL.W.dpass ?_ | refine SL.W.dpure ?_ | refine SL.W.dload ?_ | refine SL.W.dloadA ?_ | refine SL.W.dfrz ?_ | (refine SL.W.dthaw ?_; simp only [List.append_nil, List.cons_append, List.nil_append]) | (refine SL.W.dguardP (fun h => ?_) (fun h => ?_) <;> (fail_if_success (have : h = trivial := rfl)) <;> (fail_if_success (have : h = not_false := rfl)) <;> first | contradiction | (exfalso; omega) | (exfalso; revert h; simp; done) | skip) | (refine SL.W.dguardB (fun h => ?_) (fun h => ?_) <;> (fail_if_success (have : h = (rfl : true = true) := rfl)) <;> (fail_if_success (have : h = (rfl : false = false) := rfl))) | refine SL.W.done ?_ | refine SL.W.dtwo ?_ ?_ | refine SL.W.dthree ?_ ?_ ?_))

def lpI (W : World) (p : Option Addr) (len cap rb : Nat) (ρ : Env) (L : List HProp) (me : Nat) : Prop := ∃ (i nb : Nat) (T R : As2), i ≤ len ∧ i ≤ 100 ∧ RelL T R ∧ T.length ≤ 16 + i ∧
  ρ = [(1, .slice p len cap), (7, .pointer (some ⟨nb, 0, none⟩)), (9, .pointer (some ⟨rb, 0, none⟩)), (11, .int .i64 i)] ∧ L = [SL.orig W, LeasesAt nb T, RlAt rb R] ∧ me = 100 - i
set_option maxHeartbeats 4000000 in
theorem lp_loop {post : Post} {k : List Item} (W : World) (p : Option Addr) (len cap nb rb : Nat) (As : List LAct) (T R : As2) (hTR : RelL T R) (hT : T.length ≤ 16) (hl : As.length = len) (hm : len ≤ 9223372036854775807) (h0 : p = none → len = 0)
    (hc : Hid (∀ q, p = some q → ∀ i A, As[i]? = some A → (0 ≤ A.2.2 ∧ A.2.2 ≤ 18446744073709551615) ∧ ∀ j x, (laC A)[j]? = some x → W.cell? ((q.add (i * 3)).add j) = some x))
    (hK : TK Try.prog 9 Try.f9.ntmps post k [] [SL.orig W]) :
    TK Try.prog 9 Try.f9.ntmps post (.code (loopAt Try.f9 1) :: k)
      [(1, .slice p len cap), (7, .pointer (some ⟨nb, 0, none⟩)), (9, .pointer (some ⟨rb, 0, none⟩)), (11, .int .i64 0)] [SL.orig W, LeasesAt nb T, RlAt rb R] := by
  have hKH := Lib.hid hK
  clear hK
  refine SL.TK.block ?_
  refine SL.TK.loopD (lpI W p len cap rb) ?_ ⟨0, nb, T, R, Nat.zero_le _, Nat.zero_le _, hTR, hT, rfl, rfl, rfl⟩ (by first | ((repeat (first | exact SL.Sub.nil | refine SL.Sub.cons (by rfl) (by first | rfl | exact SL.int_eq (by omega)) ?_)); done) | fail) EntD.refl
  clear hTR hT
  rintro ρ L me ⟨i, nb, T, R, hi, hi100, hV, hR, rfl, rfl, rfl⟩ ih
  by_cases hlt : i < len ∧ i < 100
  · obtain ⟨hlt, h100⟩ := hlt
    obtain ⟨q, rfl⟩ : ∃ q, p = some q := by
      cases p with
      | none => have := h0 rfl; omega
      | some q => exact ⟨q, rfl⟩
    obtain ⟨A, hA⟩ : ∃ A, As[i]? = some A := ⟨_, List.getElem?_eq_getElem (by omega)⟩
    obtain ⟨hnw, hcell⟩ := hc.out q rfl i A hA
    obtain ⟨what, cl, nw⟩ := A
    dsimp only at hnw
    have hsw := Lib.hid fun (ob : Nat) (kk : List Item) hk => lp_sw (post := post) (k := kk) W nb rb ob T R what cl nw hV (by omega) hnw (.slice (some q) len cap) (.int .i64 i) hk
    clear hKH hc hV hA
    simp only [laC] at hcell
    repeat' (first | (refine SL.TO.is ?_; first | (refine SL.TO.door (o := ⟨_, .load _ _, _, _, _, _⟩) ?_; first | refine SL.W.loadOA hcell rfl ?_) | refine SL.TO.nil ?_ | (refine SL.TO.nilD ?_; simp only [SL.setB]) | refine SL.W.pass ?_ | refine SL.W.pass0 ?_ | (refine SL.W.pure ?_; first | refine SL.W.pv ?_ | refine SL.W.pv0 ?_ | refine SL.W.lenMp ?_ | (refine SL.W.guardP (fun h => ?_) (fun h => ?_) <;> (fail_if_success (have : h = trivial := rfl)) <;> (fail_if_success (have : h = not_false := rfl)) <;> first | contradiction | (exfalso; omega) | (exfalso; revert h; simp; done) | skip) | (refine SL.W.guardB (fun h => ?_) (fun h => ?_) <;> (fail_if_success (have : h = (rfl : true = true) := rfl)) <;> (fail_if_success (have : h = (rfl : false = false) := rfl)))) | (refine SL.W.loud ?_; first | refine SL.W.load ?_ | refine SL.W.loadA ?_ | refine SL.W.store ?_ | refine SL.W.storeA ?_ | (refine SL.W.box ?_; intro b) | (refine SL.W.alloc ?_; intro b) | (refine SL.W.buildSlice ?_; intro b) | (refine SL.W.append ?_; intro a cap) | refine SL.W.bytesToStr ?_ | refine SL.W.pvn (SL.PV.toIntC (by rfl) (by first | exact SL.wrap_i64 (by omega) | exact SL.wrap_u8 (by omega) | exact SL.wrap_u32 (by omega) | exact SL.wrap_u64 (by omega) | rfl)) ?_ | (refine SL.W.makeSlice ?_; intro b) | refine SL.W.lookupOk ?_ | refine SL.W.lookup ?_ | (refine SL.W.makeMap ?_; intro b) | refine SL.W.mapUpdate ?_ | (refine SL.W.mapEntry ?_; intro stamp) | refine SL.W.entryStore ?_ | (refine SL.W.range ?_; intro it) | refine SL.W.delete ?_ | (refine SL.W.guardP (fun h => ?_) (fun h => ?_) <;> (fail_if_success (have : h = trivial := rfl)) <;> (fail_if_success (have : h = not_false := rfl)) <;> first | contradiction | (exfalso; omega) | (exfalso; revert h; simp; done) | skip) | (refine SL.W.guardB (fun h => ?_) (fun h => ?_) <;> (fail_if_success (have : h = (rfl : true = true) := rfl)) <;> (fail_if_success (have : h = (rfl : false = false) := rfl))))) | (refine SL.TK.bk ?_; first | (refine SL.TK.bk (i := 4) ?_; refine Stop.out ?_)) | (refine SL.TK.is ?_; first | refine SL.TK.seq ?_ | refine SL.TK.region ?_ | refine SL.TK.regionD SL.mixed (by simp only [SL.falses] <;> rfl) ?_ | refine SL.TK.block ?_ | refine SL.TK.inBlock ?_ | refine SL.TK.skip ?_ | refine SL.TK.scope ?_ | refine SL.TK.inScope ?_ | refine SL.TK.label ?_ | refine SL.W.exit ?_ | refine SL.W.condT ?_ | refine SL.W.condF ?_ | (refine SL.W.condP (fun h => ?_) (fun h => ?_) <;> (fail_if_success (have : h = trivial := rfl)) <;> (fail_if_success (have : h = not_false := rfl)) <;> first | contradiction | (exfalso; omega) | (exfalso; revert h; simp; done) | skip) | refine SL.W.condB (fun h => ?_) (fun h => ?_)) | (refine SL.TD.is ?_; first | (refine SL.W.dfin ?_; simp only [List.append_nil, List.cons_append, List.nil_append]) | refine SL.W.dpass ?_ | refine SL.W.dpure ?_ | refine SL.W.dload ?_ | refine SL.W.dloadA ?_ | refine SL.W.dfrz ?_ | (refine SL.W.dthaw ?_; simp only [List.append_nil, List.cons_append, List.nil_append]) | (refine SL.W.dguardP (fun h => ?_) (fun h => ?_) <;> (fail_if_success (have : h = trivial := rfl)) <;> (fail_if_success (have : h = not_false := rfl)) <;> first | contradiction | (exfalso; omega) | (exfalso; revert h; simp; done) | skip) | (refine SL.W.dguardB (fun h => ?_) (fun h => ?_) <;> (fail_if_success (have : h = (rfl : true = true) := rfl)) <;> (fail_if_success (have : h = (rfl : false = false) := rfl))) | refine SL.W.done ?_ | refine SL.W.dtwo ?_ ?_ | refine SL.W.dthree ?_ ?_ ?_))
    refine Stop.mk ?_
    refine SL.W.loop (hsw.out _ _ (fun nb' T' R' hV' hR' => ?_))
    unfold lpAfter
    have hlen : R'.length ≤ 200 := by rw [← hV'.len]; omega
    have hTl : T'.length ≤ 200 := by omega
    have hall := lsAll_spec 255 (by omega) sortP255 nb' T' (by omega)
    rw [hV'.cells, hV'.srtR, List.length_map] at hall
    have hlv := lsLive_spec nb' cl nw T'
    have hth := there_spec 255 (by omega) sortP255 nb' T' (by omega) nw
    rw [hV'.sel, show (R'.filter fun p => decide (nw < p.2) == true).map (·.1) = selL true nw R' from rfl] at hth
    have hrl (a : Option Addr) (c : Nat) := rlLiveO_spec rb c a R' cl nw (by omega) hV'.ndR hnw.1
    rw [← hV'.tilR] at hrl
    have hrw (a : Option Addr) (c : Nat) := rlWhichO_spec rb c a R' true nw (by omega)
    have hsl := selL_len true nw R'
    have hsk (a b : Option Addr) (c d : Nat) := lsSameK a b c d R'.length R' rfl (by omega)
    obtain ⟨S, hS⟩ : ∃ S, S = selL true nw R' := ⟨_, rfl⟩
    rw [← hS] at hth hrw hsl
    have hsm := fun (x y : Option Addr) (u v : Nat) => same_spec x y u v S S (by omega)
    rw [decide_eq_true rfl] at hsm
    obtain ⟨B, hB⟩ : ∃ B : Bool, B = decide (nw < til cl T') := ⟨_, rfl⟩
    rw [← hB] at hlv hrl
    have hne := bool_ne B
    obtain ⟨M, hM⟩ : ∃ M, M = S.length := ⟨_, rfl⟩
    rw [← hM] at hth hrw hsm
    obtain ⟨N, hN⟩ : ∃ N, N = R'.length := ⟨_, rfl⟩
    rw [← hN] at hall hrl hrw hsk hlen
    have hNH := Lib.hid hN
    have hallH := Lib.hid hall
    have hlvH := Lib.hid hlv
    have hthH := Lib.hid hth
    have hrlH := Lib.hid hrl
    have hrwH := Lib.hid hrw
    have hskH := Lib.hid hsk
    have hsmH := Lib.hid hsm
    have hVH := Lib.hid hV'
    have hsz : N ≤ 200 := hlen
    clear hsw hall hlv hth hrl hrw hsk hsm hB hM hN hS hV' hsl hcell
    refine SL.TK.openRl (by first | ((repeat (first | exact SL.Pick.head | apply SL.Pick.tail)); done) | fail) (fun a c => ?_)
    rw [← hNH.out]
    repeat' (first | (refine SL.TO.is ?_; first | (refine SL.TO.door (o := ⟨_, .call ⟨.value (.func 30), _, _⟩, _, _, _, _⟩) ?_; first | (refine SL.W.call (hallH.out) ?_; rintro _ _ ⟨a1, c1, rfl, rfl⟩; try simp only [List.cons_append, List.nil_append])) | (refine SL.TO.door (o := ⟨_, .call ⟨.value (.func 38), _, _⟩, _, _, _, _⟩) ?_; first | (refine SL.W.call (hskH.out _ _ _ _) ?_; rintro _ _ ⟨rfl, rfl⟩; try simp only [List.cons_append, List.nil_append])) | (refine SL.TO.door (o := ⟨_, .call ⟨.value (.func 26), _, _⟩, _, _, _, _⟩) ?_; first | (refine SL.W.call (hlvH.out) ?_; rintro _ _ ⟨rfl, rfl⟩; try simp only [List.cons_append, List.nil_append])) | (refine SL.TO.door (o := ⟨_, .call ⟨.value (.func 39), _, _⟩, _, _, _, _⟩) ?_; first | refine SL.W.callQ (hrlH.out a c) ?_) | (refine SL.TO.door (o := ⟨_, .call ⟨.value (.func 40), _, _⟩, _, _, _, _⟩) ?_; first | (refine SL.W.call (hthH.out) ?_; rintro _ _ ⟨a2, c2, rfl, rfl⟩; try simp only [List.cons_append, List.nil_append])) | (refine SL.TO.door (o := ⟨_, .call ⟨.value (.func 41), _, _⟩, _, _, _, _⟩) ?_; first | (refine SL.W.callG (hrwH.out a c) ?_; rintro _ _ ⟨a3, c3, rfl, rfl⟩; refine ⟨[_], rfl, ?_⟩; simp only [List.cons_append, List.nil_append])) | (refine SL.TO.door (o := ⟨_, .call ⟨.value (.func 35), _, _⟩, _, _, _, _⟩) ?_; first | (refine SL.W.call (hsmH.out _ _ _ _) ?_; rintro _ _ ⟨rfl, rfl⟩; try simp only [List.cons_append, List.nil_append])) | refine SL.TO.nil ?_ | (refine SL.TO.nilD ?_; simp only [SL.setB]) | refine SL.W.pass ?_ | refine SL.W.pass0 ?_ | (refine SL.W.pure ?_; first | refine SL.W.pv ?_ | refine SL.W.pv0 ?_ | refine SL.W.lenMp ?_ | (refine SL.W.guardP (fun h => ?_) (fun h => ?_) <;> (fail_if_success (have : h = trivial := rfl)) <;> (fail_if_success (have : h = not_false := rfl)) <;> first | contradiction | (exfalso; omega) | (exfalso; revert h; simp; done) | skip) | (refine SL.W.guardB (fun h => ?_) (fun h => ?_) <;> (fail_if_success (have : h = (rfl : true = true) := rfl)) <;> (fail_if_success (have : h = (rfl : false = false) := rfl)))) | (refine SL.W.loud ?_; first | refine SL.W.load ?_ | refine SL.W.loadA ?_ | refine SL.W.store ?_ | refine SL.W.storeA ?_ | (refine SL.W.box ?_; intro b) | (refine SL.W.alloc ?_; intro b) | (refine SL.W.buildSlice ?_; intro b) | (refine SL.W.append ?_; intro a cap) | refine SL.W.bytesToStr ?_ | refine SL.W.pvn (SL.PV.toIntC (by rfl) (by first | exact SL.wrap_i64 (by omega) | exact SL.wrap_u8 (by omega) | exact SL.wrap_u32 (by omega) | exact SL.wrap_u64 (by omega) | rfl)) ?_ | (refine SL.W.makeSlice ?_; intro b) | refine SL.W.lookupOk ?_ | refine SL.W.lookup ?_ | (refine SL.W.makeMap ?_; intro b) | refine SL.W.mapUpdate ?_ | (refine SL.W.mapEntry ?_; intro stamp) | refine SL.W.entryStore ?_ | (refine SL.W.range ?_; intro it) | refine SL.W.delete ?_ | (refine SL.W.guardP (fun h => ?_) (fun h => ?_) <;> (fail_if_success (have : h = trivial := rfl)) <;> (fail_if_success (have : h = not_false := rfl)) <;> first | contradiction | (exfalso; omega) | (exfalso; revert h; simp; done) | skip) | (refine SL.W.guardB (fun h => ?_) (fun h => ?_) <;> (fail_if_success (have : h = (rfl : true = true) := rfl)) <;> (fail_if_success (have : h = (rfl : false = false) := rfl))))) | (refine SL.TK.is ?_; first | refine SL.TK.seq ?_ | refine SL.TK.region ?_ | refine SL.TK.regionD SL.mixed (by simp only [SL.falses] <;> rfl) ?_ | refine SL.TK.block ?_ | refine SL.TK.inBlock ?_ | refine SL.TK.skip ?_ | refine SL.TK.scope ?_ | refine SL.TK.inScope ?_ | refine SL.TK.label ?_ | refine SL.W.exit ?_ | refine SL.W.condT ?_ | refine SL.W.condF ?_ | (refine SL.W.condP (fun h => ?_) (fun h => ?_) <;> (fail_if_success (have : h = trivial := rfl)) <;> (fail_if_success (have : h = not_false := rfl)) <;> first | contradiction | (exfalso; omega) | (exfalso; revert h; simp; done) | skip) | refine SL.W.condB (fun h => ?_) (fun h => ?_)) | (refine SL.TD.is ?_; first | refine SL.TD.slot (d := 167) (by rfl) hne ?_ | (refine SL.W.dfin ?_; simp only [List.append_nil, List.cons_append, List.nil_append]) | refine SL.W.dpass ?_ | refine SL.W.dpure ?_ | refine SL.W.dload ?_ | refine SL.W.dloadA ?_ | refine SL.W.dfrz ?_ | (refine SL.W.dthaw ?_; simp only [List.append_nil, List.cons_append, List.nil_append]) | (refine SL.W.dguardP (fun h => ?_) (fun h => ?_) <;> (fail_if_success (have : h = trivial := rfl)) <;> (fail_if_success (have : h = not_false := rfl)) <;> first | contradiction | (exfalso; omega) | (exfalso; revert h; simp; done) | skip) | (refine SL.W.dguardB (fun h => ?_) (fun h => ?_) <;> (fail_if_success (have : h = (rfl : true = true) := rfl)) <;> (fail_if_success (have : h = (rfl : false = false) := rfl))) | refine SL.W.done ?_ | refine SL.W.dtwo ?_ ?_ | refine SL.W.dthree ?_ ?_ ?_))
    all_goals
      refine SL.TK.againD ih ⟨i + 1, nb', T', R', by omega, by omega, hVH.out, by omega, rfl, rfl, rfl⟩ (by first | ((repeat (first | exact SL.Sub.nil | refine SL.Sub.cons (by rfl) (by first | rfl | exact SL.int_eq (by omega)) ?_)); done) | fail) ?_ (by omega)
      exact EntD.cons (by first | ((repeat (first | exact SL.Pick.head | apply SL.Pick.tail)); done) | fail) (EntD.cons (by first | ((repeat (first | exact SL.Pick.head | apply SL.Pick.tail)); done) | fail) (EntD.frm (by first | ((repeat (first | exact SL.Frm.nil | exact SL.Frm.refl | (apply SL.Frm.cons; repeat (first | exact SL.Pick.head | apply SL.Pick.tail)))); done) | fail) (rl_shut hNH.out rfl) EntD.nil))
  · clear ih hV hc
    by_cases hl2 : i < len
    all_goals try (have h3 : ¬ (i : Int) < 100 := by omega)
    all_goals repeat' (first | (refine SL.TO.is ?_; first | refine SL.TO.nil ?_ | (refine SL.TO.nilD ?_; simp only [SL.setB]) | refine SL.W.pass ?_ | refine SL.W.pass0 ?_ | (refine SL.W.pure ?_; first | refine SL.W.pv ?_ | refine SL.W.pv0 ?_ | refine SL.W.lenMp ?_ | (refine SL.W.guardP (fun h => ?_) (fun h => ?_) <;> (fail_if_success (have : h = trivial := rfl)) <;> (fail_if_success (have : h = not_false := rfl)) <;> first | contradiction | (exfalso; omega) | (exfalso; revert h; simp; done) | skip) | (refine SL.W.guardB (fun h => ?_) (fun h => ?_) <;> (fail_if_success (have : h = (rfl : true = true) := rfl)) <;> (fail_if_success (have : h = (rfl : false = false) := rfl)))) | (refine SL.W.loud ?_; first | refine SL.W.load ?_ | refine SL.W.loadA ?_ | refine SL.W.store ?_ | refine SL.W.storeA ?_ | (refine SL.W.box ?_; intro b) | (refine SL.W.alloc ?_; intro b) | (refine SL.W.buildSlice ?_; intro b) | (refine SL.W.append ?_; intro a cap) | refine SL.W.bytesToStr ?_ | refine SL.W.pvn (SL.PV.toIntC (by rfl) (by first | exact SL.wrap_i64 (by omega) | exact SL.wrap_u8 (by omega) | exact SL.wrap_u32 (by omega) | exact SL.wrap_u64 (by omega) | rfl)) ?_ | (refine SL.W.makeSlice ?_; intro b) | refine SL.W.lookupOk ?_ | refine SL.W.lookup ?_ | (refine SL.W.makeMap ?_; intro b) | refine SL.W.mapUpdate ?_ | (refine SL.W.mapEntry ?_; intro stamp) | refine SL.W.entryStore ?_ | (refine SL.W.range ?_; intro it) | refine SL.W.delete ?_ | (refine SL.W.guardP (fun h => ?_) (fun h => ?_) <;> (fail_if_success (have : h = trivial := rfl)) <;> (fail_if_success (have : h = not_false := rfl)) <;> first | contradiction | (exfalso; omega) | (exfalso; revert h; simp; done) | skip) | (refine SL.W.guardB (fun h => ?_) (fun h => ?_) <;> (fail_if_success (have : h = (rfl : true = true) := rfl)) <;> (fail_if_success (have : h = (rfl : false = false) := rfl))))) | (refine SL.TK.is ?_; first | (refine SL.TK.weakD SL.Sub.nil (EntD.cons (by first | ((repeat (first | exact SL.Pick.head | apply SL.Pick.tail)); done) | fail) EntD.nil) hKH.out) | refine SL.TK.seq ?_ | refine SL.TK.region ?_ | refine SL.TK.regionD SL.mixed (by simp only [SL.falses] <;> rfl) ?_ | refine SL.TK.block ?_ | refine SL.TK.inBlock ?_ | refine SL.TK.skip ?_ | refine SL.TK.scope ?_ | refine SL.TK.inScope ?_ | refine SL.TK.label ?_ | refine SL.W.exit ?_ | refine SL.W.condT ?_ | refine SL.W.condF ?_ | (refine SL.W.condP (fun h => ?_) (fun h => ?_) <;> (fail_if_success (have : h = trivial := rfl)) <;> (fail_if_success (have : h = not_false := rfl)) <;> first | contradiction | (exfalso; omega) | (exfalso; revert h; simp; done) | skip) | refine SL.W.condB (fun h => ?_) (fun h => ?_)) | (refine SL.TD.is ?_; first | (refine SL.W.dfin ?_; simp only [List.append_nil, List.cons_append, List.nil_append]) | refine SL.W.dpass ?_ | refine SL.W.dpure ?_ | refine SL.W.dload ?_ | refine SL.W.dloadA ?_ | refine SL.W.dfrz ?_ | (refine SL.W.dthaw ?_; simp only [List.append_nil, List.cons_append, List.nil_append]) | (refine SL.W.dguardP (fun h => ?_) (fun h => ?_) <;> (fail_if_success (have : h = trivial := rfl)) <;> (fail_if_success (have : h = not_false := rfl)) <;> first | contradiction | (exfalso; omega) | (exfalso; revert h; simp; done) | skip) | (refine SL.W.dguardB (fun h => ?_) (fun h => ?_) <;> (fail_if_success (have : h = (rfl : true = true) := rfl)) <;> (fail_if_success (have : h = (rfl : false = false) := rfl))) | refine SL.W.done ?_ | refine SL.W.dtwo ?_ ?_ | refine SL.W.dthree ?_ ?_ ?_))

set_option maxHeartbeats 2000000 in
theorem lp_spec (W : World) (pf pl : Option Addr) (lf cf len cap : Nat) (F0 : As2) (As : List LAct) (hF : F0.length = lf) (hfc : lf ≤ cf) (hfm : lf ≤ 9223372036854775807) (hl : As.length = len) (hm : len ≤ 9223372036854775807) (hf0 : pf = none → lf = 0) (h0 : pl = none → len = 0)
    (hcf : ∀ q, pf = some q → ∀ i x, F0[i]? = some x → ∀ (j : Nat) (v : Value), [Value.int .u32 x.1, .int .u64 x.2][j]? = some v → W.cell? ((q.add (i * 2)).add j) = some v)
    (hc : Hid (∀ q, pl = some q → ∀ i A, As[i]? = some A → (0 ≤ A.2.2 ∧ A.2.2 ≤ 18446744073709551615) ∧ ∀ j x, (laC A)[j]? = some x → W.cell? ((q.add (i * 3)).add j) = some x)) :
    Spec Try.prog 9 [.slice pf lf cf, .slice pl len cap] [SL.orig W] (fun r L => r = .bool true ∧ L = [SL.orig W]) := by
  have hW := Lib.hid wakes_spec
  obtain ⟨n, hn⟩ : ∃ n : Nat, min (lf : Int) 20 = (n : Int) := ⟨min lf 20, by omega⟩
  obtain ⟨T, hTd⟩ : ∃ T, T = F0.take n := ⟨_, rfl⟩
  have hT : T.length = n := by rw [hTd, List.length_take]; omega
  have hcT : ∀ q, pf = some q → ∀ i x, T[i]? = some x → ∀ (j : Nat) (v : Value), [Value.int .u32 x.1, .int .u64 x.2][j]? = some v → W.cell? ((q.add (i * 2)).add j) = some v := fun q hq i x hx => by
    have hlt : i < T.length := (List.getElem?_eq_some_iff.1 hx).1
    rw [hTd, List.getElem?_take_of_lt (by omega)] at hx
    exact hcf q hq i x hx
  have hnf : n ≤ cf := by omega
  have hp0 : pf = none → n = 0 := fun h => by have := hf0 h; omega
  have hmine := Lib.hid fun (post : Post) (k : List Item) (s1 : Value) hK => lp_mine (post := post) (k := k) W pf n cf s1 T hT (by omega) hp0 hcT hK
  have hrn := rlNew_spec W pf cf T (by omega) (fun h => by rw [hT]; exact hp0 h) (fun q hq i x hx => ⟨hcT q hq i x hx 0 _ rfl, hcT q hq i x hx 1 _ rfl, hcT q hq i x hx⟩)
  have hln (a : Option Addr) (c : Nat) := lsNew_spec a c T (by omega)
  rw [hT] at hrn hln
  have hbad : ∀ e : Int, (e = 7 ∨ e = 1) → Spec Try.prog 31 [.slice pf n cf] [SL.orig W] (fun r L => r = .tuple #[.pointer none, .int .i64 e] ∧ L = [SL.orig W]) →
      (∀ (a : Option Addr) (c : Nat), Spec Try.prog 25 [.slice a n c] [own 78 2 a n c (prC T)] (fun r L => r = .tuple #[.pointer none, .int .i64 e] ∧ L = [])) →
      Spec Try.prog 9 [.slice pf lf cf, .slice pl len cap] [SL.orig W] (fun r L => r = .bool true ∧ L = [SL.orig W]) := by
    intro e he hr0 hx0
    have hr := Lib.hid hr0
    have hx := Lib.hid hx0
    clear hr0 hx0 hrn hln hcT hcf hc hTd hF hp0 h0 hf0 hl
    rcases he with rfl | rfl
    all_goals
      refine SL.Spec.of_TK Go.Proofs.Try.func9 rfl rfl SL.call9 rfl ?_
      refine SL.TK.entD (L' := [SL.orig W, own 78 2 none 0 0 []]) (EntD.of_ent (Ent.cons (by first | ((repeat (first | exact SL.Pick.head | apply SL.Pick.tail)); done) | fail) (Ent.own_nil Ent.refl))) ?_
      repeat' (first | refine SL.W.pvn (PV.minI (by rfl) (by rfl) hn) ?_ | (refine SL.TO.is ?_; first | (refine SL.TO.door (o := ⟨_, .call ⟨.value (.func 25), _, _⟩, _, _, _, _⟩) ?_; first | (refine SL.W.call (hx.out _ _) ?_; rintro _ _ ⟨rfl, rfl⟩; try simp only [List.cons_append, List.nil_append])) | (refine SL.TO.door (o := ⟨_, .call ⟨.value (.func 31), _, _⟩, _, _, _, _⟩) ?_; first | (refine SL.W.call (hr.out) ?_; rintro _ _ ⟨rfl, rfl⟩; try simp only [List.cons_append, List.nil_append])) | (refine SL.TO.door (o := ⟨_, .call ⟨.value (.func 29), _, _⟩, _, _, _, _⟩) ?_; first | (refine SL.W.call (hW.out) ?_; rintro _ _ ⟨rfl, rfl⟩; try simp only [List.cons_append, List.nil_append])) | refine SL.TO.nil ?_ | (refine SL.TO.nilD ?_; simp only [SL.setB]) | refine SL.W.pass ?_ | refine SL.W.pass0 ?_ | (refine SL.W.pure ?_; first | refine SL.W.pv ?_ | refine SL.W.pv0 ?_ | refine SL.W.lenMp ?_ | (refine SL.W.guardP (fun h => ?_) (fun h => ?_) <;> (fail_if_success (have : h = trivial := rfl)) <;> (fail_if_success (have : h = not_false := rfl)) <;> first | contradiction | (exfalso; omega) | (exfalso; revert h; simp; done) | skip) | (refine SL.W.guardB (fun h => ?_) (fun h => ?_) <;> (fail_if_success (have : h = (rfl : true = true) := rfl)) <;> (fail_if_success (have : h = (rfl : false = false) := rfl)))) | (refine SL.W.loud ?_; first | refine SL.W.load ?_ | refine SL.W.loadA ?_ | refine SL.W.store ?_ | refine SL.W.storeA ?_ | (refine SL.W.box ?_; intro b) | (refine SL.W.alloc ?_; intro b) | (refine SL.W.buildSlice ?_; intro b) | (refine SL.W.append ?_; intro a cap) | refine SL.W.bytesToStr ?_ | refine SL.W.pvn (SL.PV.toIntC (by rfl) (by first | exact SL.wrap_i64 (by omega) | exact SL.wrap_u8 (by omega) | exact SL.wrap_u32 (by omega) | exact SL.wrap_u64 (by omega) | rfl)) ?_ | (refine SL.W.makeSlice ?_; intro b) | refine SL.W.lookupOk ?_ | refine SL.W.lookup ?_ | (refine SL.W.makeMap ?_; intro b) | refine SL.W.mapUpdate ?_ | (refine SL.W.mapEntry ?_; intro stamp) | refine SL.W.entryStore ?_ | (refine SL.W.range ?_; intro it) | refine SL.W.delete ?_ | (refine SL.W.guardP (fun h => ?_) (fun h => ?_) <;> (fail_if_success (have : h = trivial := rfl)) <;> (fail_if_success (have : h = not_false := rfl)) <;> first | contradiction | (exfalso; omega) | (exfalso; revert h; simp; done) | skip) | (refine SL.W.guardB (fun h => ?_) (fun h => ?_) <;> (fail_if_success (have : h = (rfl : true = true) := rfl)) <;> (fail_if_success (have : h = (rfl : false = false) := rfl))))) | (refine SL.TK.lp ?_; first | refine SL.W.loop (hmine.out _ _ _ (fun a2 c2 => ?_))) | (refine SL.TK.is ?_; first | refine SL.TK.seq ?_ | refine SL.TK.region ?_ | refine SL.TK.regionD SL.mixed (by simp only [SL.falses] <;> rfl) ?_ | refine SL.TK.block ?_ | refine SL.TK.inBlock ?_ | refine SL.TK.skip ?_ | refine SL.TK.scope ?_ | refine SL.TK.inScope ?_ | refine SL.TK.label ?_ | refine SL.W.exit ?_ | refine SL.W.condT ?_ | refine SL.W.condF ?_ | (refine SL.W.condP (fun h => ?_) (fun h => ?_) <;> (fail_if_success (have : h = trivial := rfl)) <;> (fail_if_success (have : h = not_false := rfl)) <;> first | contradiction | (exfalso; omega) | (exfalso; revert h; simp; done) | skip) | refine SL.W.condB (fun h => ?_) (fun h => ?_)) | (refine SL.TD.is ?_; first | (refine SL.W.dfin ?_; simp only [List.append_nil, List.cons_append, List.nil_append]) | refine SL.W.dpass ?_ | refine SL.W.dpure ?_ | refine SL.W.dload ?_ | refine SL.W.dloadA ?_ | refine SL.W.dfrz ?_ | (refine SL.W.dthaw ?_; simp only [List.append_nil, List.cons_append, List.nil_append]) | (refine SL.W.dguardP (fun h => ?_) (fun h => ?_) <;> (fail_if_success (have : h = trivial := rfl)) <;> (fail_if_success (have : h = not_false := rfl)) <;> first | contradiction | (exfalso; omega) | (exfalso; revert h; simp; done) | skip) | (refine SL.W.dguardB (fun h => ?_) (fun h => ?_) <;> (fail_if_success (have : h = (rfl : true = true) := rfl)) <;> (fail_if_success (have : h = (rfl : false = false) := rfl))) | refine SL.W.done ?_ | refine SL.W.dtwo ?_ ?_ | refine SL.W.dthree ?_ ?_ ?_))
      all_goals exact SL.TK.retD Try.func9 (SL.Res.one rfl (by rfl)) ⟨rfl, rfl⟩ (EntD.cons (by first | ((repeat (first | exact SL.Pick.head | apply SL.Pick.tail)); done) | fail) EntD.nil)
  by_cases hok : NewOk T
  · by_cases h16 : n ≤ 16
    · have hr : Hid (Spec Try.prog 31 [.slice pf n cf] [SL.orig W] (fun r L => ∃ rb R, RelL T R ∧ r = .tuple #[.pointer (some ⟨rb, 0, none⟩), .int .i64 0] ∧ L = [RlAt rb R, SL.orig W])) := Lib.hid (SL.Spec.postD hrn fun v L h => by
        rcases h with ⟨_, _, rb, R, rfl, hR, rfl⟩ | ⟨_, h, _⟩ | ⟨h, _⟩
        · exact ⟨_, ⟨rb, R, hR, rfl, rfl⟩, EntD.refl⟩
        · omega
        · exact absurd hok h)
      have hx : Hid (∀ (a : Option Addr) (c : Nat), Spec Try.prog 25 [.slice a n c] [own 78 2 a n c (prC T)] (fun r L => ∃ nb, r = .tuple #[.pointer (some ⟨nb, 0, none⟩), .int .i64 0] ∧ L = [LeasesAt nb T])) := Lib.hid fun a c => SL.Spec.postD (hln a c) fun v L h => by
        rcases h with ⟨_, _, nb, rfl, rfl⟩ | ⟨_, h, _⟩ | ⟨h, _⟩
        · exact ⟨_, ⟨nb, rfl, rfl⟩, EntD.cons (by first | ((repeat (first | exact SL.Pick.head | apply SL.Pick.tail)); done) | fail) EntD.nil⟩
        · omega
        · exact absurd hok h
      have hL := Lib.hid fun (post : Post) (k : List Item) (nb rb : Nat) (R : As2) (hR : RelL T R) hK => lp_loop (post := post) (k := k) W pl len cap nb rb As T R hR (by omega) hl hm h0 hc hK
      clear hrn hln hcT hcf hc hok hTd hF hp0 h0 hf0 hl
      refine SL.Spec.of_TK Go.Proofs.Try.func9 rfl rfl SL.call9 rfl ?_
      refine SL.TK.entD (L' := [SL.orig W, own 78 2 none 0 0 []]) (EntD.of_ent (Ent.cons (by first | ((repeat (first | exact SL.Pick.head | apply SL.Pick.tail)); done) | fail) (Ent.own_nil Ent.refl))) ?_
      repeat' (first | refine SL.W.pvn (PV.minI (by rfl) (by rfl) hn) ?_ | (refine SL.TO.is ?_; first | (refine SL.TO.door (o := ⟨_, .call ⟨.value (.func 25), _, _⟩, _, _, _, _⟩) ?_; first | (refine SL.W.call (hx.out _ _) ?_; rintro _ _ ⟨nb, rfl, rfl⟩; try simp only [List.cons_append, List.nil_append])) | (refine SL.TO.door (o := ⟨_, .call ⟨.value (.func 31), _, _⟩, _, _, _, _⟩) ?_; first | (refine SL.W.call (hr.out) ?_; rintro _ _ ⟨rb, R, hR, rfl, rfl⟩; try simp only [List.cons_append, List.nil_append])) | (refine SL.TO.door (o := ⟨_, .call ⟨.value (.func 29), _, _⟩, _, _, _, _⟩) ?_; first | (refine SL.W.call (hW.out) ?_; rintro _ _ ⟨rfl, rfl⟩; try simp only [List.cons_append, List.nil_append])) | refine SL.TO.nil ?_ | (refine SL.TO.nilD ?_; simp only [SL.setB]) | refine SL.W.pass ?_ | refine SL.W.pass0 ?_ | (refine SL.W.pure ?_; first | refine SL.W.pv ?_ | refine SL.W.pv0 ?_ | refine SL.W.lenMp ?_ | (refine SL.W.guardP (fun h => ?_) (fun h => ?_) <;> (fail_if_success (have : h = trivial := rfl)) <;> (fail_if_success (have : h = not_false := rfl)) <;> first | contradiction | (exfalso; omega) | (exfalso; revert h; simp; done) | skip) | (refine SL.W.guardB (fun h => ?_) (fun h => ?_) <;> (fail_if_success (have : h = (rfl : true = true) := rfl)) <;> (fail_if_success (have : h = (rfl : false = false) := rfl)))) | (refine SL.W.loud ?_; first | refine SL.W.load ?_ | refine SL.W.loadA ?_ | refine SL.W.store ?_ | refine SL.W.storeA ?_ | (refine SL.W.box ?_; intro b) | (refine SL.W.alloc ?_; intro b) | (refine SL.W.buildSlice ?_; intro b) | (refine SL.W.append ?_; intro a cap) | refine SL.W.bytesToStr ?_ | refine SL.W.pvn (SL.PV.toIntC (by rfl) (by first | exact SL.wrap_i64 (by omega) | exact SL.wrap_u8 (by omega) | exact SL.wrap_u32 (by omega) | exact SL.wrap_u64 (by omega) | rfl)) ?_ | (refine SL.W.makeSlice ?_; intro b) | refine SL.W.lookupOk ?_ | refine SL.W.lookup ?_ | (refine SL.W.makeMap ?_; intro b) | refine SL.W.mapUpdate ?_ | (refine SL.W.mapEntry ?_; intro stamp) | refine SL.W.entryStore ?_ | (refine SL.W.range ?_; intro it) | refine SL.W.delete ?_ | (refine SL.W.guardP (fun h => ?_) (fun h => ?_) <;> (fail_if_success (have : h = trivial := rfl)) <;> (fail_if_success (have : h = not_false := rfl)) <;> first | contradiction | (exfalso; omega) | (exfalso; revert h; simp; done) | skip) | (refine SL.W.guardB (fun h => ?_) (fun h => ?_) <;> (fail_if_success (have : h = (rfl : true = true) := rfl)) <;> (fail_if_success (have : h = (rfl : false = false) := rfl))))) | (refine SL.TK.lp ?_; first | refine SL.W.loop (hmine.out _ _ _ (fun a2 c2 => ?_)) | refine SL.W.loop (hL.out _ _ _ _ _ hR ?_)) | (refine SL.TK.is ?_; first | refine SL.TK.seq ?_ | refine SL.TK.region ?_ | refine SL.TK.regionD SL.mixed (by simp only [SL.falses] <;> rfl) ?_ | refine SL.TK.block ?_ | refine SL.TK.inBlock ?_ | refine SL.TK.skip ?_ | refine SL.TK.scope ?_ | refine SL.TK.inScope ?_ | refine SL.TK.label ?_ | refine SL.W.exit ?_ | refine SL.W.condT ?_ | refine SL.W.condF ?_ | (refine SL.W.condP (fun h => ?_) (fun h => ?_) <;> (fail_if_success (have : h = trivial := rfl)) <;> (fail_if_success (have : h = not_false := rfl)) <;> first | contradiction | (exfalso; omega) | (exfalso; revert h; simp; done) | skip) | refine SL.W.condB (fun h => ?_) (fun h => ?_)) | (refine SL.TD.is ?_; first | (refine SL.W.dfin ?_; simp only [List.append_nil, List.cons_append, List.nil_append]) | refine SL.W.dpass ?_ | refine SL.W.dpure ?_ | refine SL.W.dload ?_ | refine SL.W.dloadA ?_ | refine SL.W.dfrz ?_ | (refine SL.W.dthaw ?_; simp only [List.append_nil, List.cons_append, List.nil_append]) | (refine SL.W.dguardP (fun h => ?_) (fun h => ?_) <;> (fail_if_success (have : h = trivial := rfl)) <;> (fail_if_success (have : h = not_false := rfl)) <;> first | contradiction | (exfalso; omega) | (exfalso; revert h; simp; done) | skip) | (refine SL.W.dguardB (fun h => ?_) (fun h => ?_) <;> (fail_if_success (have : h = (rfl : true = true) := rfl)) <;> (fail_if_success (have : h = (rfl : false = false) := rfl))) | refine SL.W.done ?_ | refine SL.W.dtwo ?_ ?_ | refine SL.W.dthree ?_ ?_ ?_))
      all_goals exact SL.TK.retD Try.func9 (SL.Res.one rfl (by rfl)) ⟨rfl, rfl⟩ (EntD.cons (by first | ((repeat (first | exact SL.Pick.head | apply SL.Pick.tail)); done) | fail) EntD.nil)
    · refine hbad 7 (.inl rfl) (SL.Spec.postD hrn fun v L h => ?_) (fun a c => SL.Spec.postD (hln a c) fun v L h => ?_)
      · rcases h with ⟨_, h, _⟩ | ⟨_, _, rfl, rfl⟩ | ⟨h, _⟩
        · omega
        · exact ⟨_, ⟨rfl, rfl⟩, EntD.refl⟩
        · exact absurd hok h
      · rcases h with ⟨_, h, _⟩ | ⟨_, _, rfl, rfl⟩ | ⟨h, _⟩
        · omega
        · exact ⟨_, ⟨rfl, rfl⟩, EntD.nil⟩
        · exact absurd hok h
  · refine hbad 1 (.inr rfl) (SL.Spec.postD hrn fun v L h => ?_) (fun a c => SL.Spec.postD (hln a c) fun v L h => ?_)
    · rcases h with ⟨h, _⟩ | ⟨h, _⟩ | ⟨_, rfl, rfl⟩
      · exact absurd h hok
      · exact absurd h hok
      · exact ⟨_, ⟨rfl, rfl⟩, EntD.refl⟩
    · rcases h with ⟨h, _⟩ | ⟨h, _⟩ | ⟨_, rfl, rfl⟩
      · exact absurd h hok
      · exact absurd h hok
      · exact ⟨_, ⟨rfl, rfl⟩, EntD.nil⟩
end SL

namespace Go.Proofs.Ytpnlenpglmffdaa.leasePlays
open Go.ChangeShapes Go.WideShapes Go.ChangeAt Go.RowKit

theorem own : ownKnob Try.prog.godebug = none := by kernel_rfl
theorem laid : laidOutB Try.prog = true := by kernel_rfl

theorem contract (H : Type) (enc : TypeId × Value → H) (W : World) (base : Nat) (args : Array Value) (ds gs : List (DataW H)) (before : List MemPlace)
    (hval : ∀ (j : Nat) t v, Try.f9.params[j]? = some t → args[j]? = some v → Value.okWide Try.prog W .any base t v)
    (hW : DataW.Whole enc Try.prog Try.f9.params.toList Rows.leasePlaysSpec.vars false W args.toList ds gs before) :
    Calls Try.prog 9 args W fun e W' => ∃ v, e = .returned v ∧ Rows.leasePlaysSpec.post enc Try.prog Try.f9 false true false false W args v W' := by
  have hW' := hW
  obtain ⟨p, q, hA0, hV, rfl, hfz, hnd⟩ := hW
  have hA : DataW.TrodAll enc Try.prog W 0 (fun _ => true) true Try.f9.params.toList args.toList ds p := hA0
  rw [Try.params9] at hA hval
  obtain ⟨v0, vs0, d0, ds0, p0, q0, hargs, rfl, rfl, h0, r0⟩ := trodAll_cons hA
  obtain ⟨v1, vs1, d1, ds1, p1, q1, rfl, rfl, rfl, h1, r1⟩ := trodAll_cons r0
  obtain ⟨rfl, rfl, rfl⟩ := trodAll_nil r1
  obtain rfl : args = #[v0, v1] := by cases args; simp_all
  obtain ⟨rfl, rfl⟩ := trodVars_none hV
  refine SL.law_calls (ds := [d0, d1]) (gs := []) laid (by kernel_rfl) rfl rfl rfl (by kernel_rfl) hW' ?_
  obtain ⟨pf, cf, F0, rfl, hfc, hfm, hf0, hcf⟩ := SL.rows_in Try.underlying80 (by kernel_rfl) (fun A : Int × Int => [Value.int .u32 A.1, .int .u64 A.2]) (fun _ => True) (0, 0) (fun es h => SL.lease_of h) (hval 0 80 v0 rfl rfl) h0
  obtain ⟨pl, cl, As, rfl, hc, hm, hn, hcell⟩ := SL.rows_in Try.underlying81 (by kernel_rfl) SL.laC (fun A => 0 ≤ A.2.2 ∧ A.2.2 ≤ 18446744073709551615) (0, 0, 0) (fun es h => SL.lact_of h) (hval 1 81 v1 rfl rfl) h1
  exact SL.lp_spec W pf pl F0.length cf As.length cl F0 As rfl hfc (Nat.le_trans hfc (Nat.le_trans hfm (by decide +kernel))) rfl (Nat.le_trans hc (Nat.le_trans hm (by decide +kernel))) (fun h => by rw [hf0 h]; rfl) (fun h => by rw [hn h]; rfl) (fun q hq i x hx => (hcf q hq i x hx).2) (Lib.hid hcell)

set_option maxRecDepth 100000 in
theorem lifted (os : Os) (started : os.Started) (H : Type) (enc : TypeId × Value → H) :
    ReturnsInHanded {} Try.checked os 9 .any (Rows.leasePlaysSpec.pre6 enc Try.prog Try.f9 [] false) (Rows.leasePlaysSpec.post enc Try.prog Try.f9 false true false false) := by
  refine returnsInHanded_of_change own started (by kernel_rfl) Try.func9
    (ChangeSpec.witness6 false ⟨#[], #[.slice none 0 0, .slice none 0 0], []⟩ 8 (by kernel_rfl) (by kernel_rfl) (by kernel_rfl) (by kernel_rfl)) ?_
  intro W base args ds gs before hval hW _ _
  exact contract H enc W base args ds gs before hval hW

theorem proved : Rows.LeasePlaysSaid :=
  OpenClaim.holds_of_wide 9 Try.f9 rfl rfl rfl rfl rfl rfl rfl ⟨rfl, rfl, rfl, rfl, rfl⟩ rfl rfl rfl rfl rfl (by kernel_rfl) Try.func9 (by kernel_rfl)
    (of_decide_eq_true (by kernel_rfl)) (by unfold Func.isWrapper; first | (rw [if_pos (by decide +kernel)]; kernel_rfl) | (rw [if_neg (by decide +kernel)]; exact ⟨rfl, rfl⟩))
    (fun os started H enc _ => lifted os started H enc)
end Go.Proofs.Ytpnlenpglmffdaa.leasePlays
