/-
  The given statement 'LeaseBack': all leases, and back.
  Conditions: none beyond those of the given statement.
-/
import Derived.Test.YtpnlenpglmffdaaLs8
import Derived.Test.YtpnlenpglmffdaaLs9
import Derived.Test.YtpnlenpglmffdaaRows
set_option linter.unusedVariables false
set_option linter.unusedSimpArgs false
set_option maxRecDepth 10000
namespace SL
open Go Go.Proofs Go.RowKit Go.ChangeShapes Go.WideShapes Go.ChangeAt Go.WideElems

section
variable {P : Program} {n : Nat} {ρ : Env} {ty : TypeId} {pos : String} {af : Array Edge} {g : Option (Nat × Bool)}
theorem PV.min3 {dst : Option Nat} {x y z : Operand} {kd : IntKind} {i j l r : Int} {tys : Array TypeId} (hx : ev ρ x = some (.int kd i)) (hy : ev ρ y = some (.int kd j)) (hz : ev ρ z = some (.int kd l)) (hr : min (min i j) l = r) :
    PV P n ρ ⟨dst, .call ⟨.builtin .min, [x, y, z].toArray, tys⟩, ty, pos, af, g⟩ (.int kd r) := fun a w gr => by
  have h1 : (if j < i then j else i) = min i j := by split <;> omega
  have h2 : (if l < min i j then l else min i j) = r := by rw [← hr]; split <;> omega
  simp [execOp, resolve, invoke, builtin, gr.eval hx, gr.eval hy, gr.eval hz, Builtin.min_, Builtin.min2, h1, h2]
end
section
variable {H : Type} {enc : TypeId × Value → H} {P : Program}
/-- a slice of integers that came in -/
theorem ints_in {t e : TypeId} {k : IntKind} {W : World} {base : Nat} {v : Value} {d : DataW H} {ps : List MemPlace} (ht : P.underlying t = some (.slice e)) (he : P.underlying e = some (.int k)) (hc : P.cellsOf e = 1)
    (hval : Value.okWide P W .any base t v) (h : DataW.Trod enc P W 0 (fun _ => true) true t v d ps) : ∃ (a : Option Addr) (cap : Nat) (zs : List Int), v = .slice a zs.length cap ∧ zs.length ≤ cap ∧ cap ≤ maxLen ∧ (a = none → zs = []) ∧
      (∀ q, a = some q → ∀ j, j < zs.length → W.cell? (q.add j) = some (.int k (zs.getD j 0))) ∧ (∀ z ∈ zs, (Lit.int k z).wf = true) := by
  obtain ⟨a1, len1, cap1, rfl⟩ := okWide_slice ht hval
  obtain ⟨n, hn⟩ := h
  rcases open_ints ht he hc hn with ⟨h1, _⟩ | ⟨a, len, cap, zs, h1, _, h3, h4, h5, h6, h7, h8⟩
  · simp [Value.cells] at h1
    obtain ⟨rfl, rfl, rfl⟩ := h1
    exact ⟨none, 0, [], rfl, Nat.le_refl _, Nat.zero_le _, fun _ => rfl, (fun q hq => by cases hq), (fun z hz => by simp at hz)⟩
  · simp [Value.cells] at h1
    obtain ⟨rfl, rfl, rfl⟩ := h1
    have h5' : zs.length = cap1 := by simpa using h5
    have hl : (zs.take len1).length = len1 := by simp; omega
    refine ⟨some a, cap1, zs.take len1, by rw [hl], by rw [hl]; exact h3, h4, fun hq => (by cases hq), ?_, fun z hz => h8 z (List.mem_of_mem_take hz)⟩
    rintro q hq j hj
    cases hq
    rw [hl] at hj
    rw [h7 j (by omega)]
    simp [List.getD_eq_getElem?_getD, List.getElem?_take_of_lt hj]
end
theorem wf_u16 {z : Int} (h : (Lit.int .u16 z).wf = true) : 0 ≤ z ∧ z ≤ 65535 := by
  simp [Lit.wf, IntKind.min, IntKind.max, IntKind.signed, IntKind.bits] at h
  omega
/-- New of leases that are all right -/
theorem new_ok (a : Option Addr) (cap : Nat) (T : As2) (hN : T.length ≤ 16) (hok : NewOk T) : Spec Try.prog 25 [.slice a T.length cap] [own 78 2 a T.length cap (prC T)] (fun r L => ∃ nb, r = .tuple #[.pointer (some ⟨nb, 0, none⟩), .int .i64 0] ∧ L = [LeasesAt nb T]) :=
  Spec.postD (lsNew_spec a cap T (by omega)) fun v L h => by
    rcases h with ⟨_, _, nb, rfl, rfl⟩ | ⟨_, h, _⟩ | ⟨h, _⟩
    · exact ⟨_, ⟨nb, rfl, rfl⟩, EntD.cons (by first | ((repeat (first | exact SL.Pick.head | apply SL.Pick.tail)); done) | fail) EntD.nil⟩
    · omega
    · exact absurd hok h
theorem all_prs (nb : Nat) (A : As2) (ks : List Int) (T : As2) (hk : srt (A.map (·.1)) = ks) (hT : prs A ks = T) (hl : A.length ≤ 12) :
    Spec Try.prog 30 [.pointer (some ⟨nb, 0, none⟩)] [LeasesAt nb A] (fun r L => ∃ a c, r = .slice a T.length c ∧ L = [LeasesAt nb A, own 78 2 a T.length c (prC T)]) := by
  have := lsAll_spec 12 (by omega) sort12 nb A hl
  rw [hk, lsCells_pr, show (ks.map fun q => (q, til q A)) = T from hT] at this
  rwa [show ks.length = T.length from by rw [← hT, prs, List.length_map]] at this
theorem others_eq (g : Int) (A : As2) (ks : List Int) : others g (prs A ks) = (ks.filter fun q => !decide (q = g)).length := by
  rw [others, prs, List.filter_map, List.length_map]; rfl
attribute [local irreducible] SL.TK SL.TO SL.TD SL.PV SL.Pick SL.Frm SL.Ent SL.Sub SL.EvAll SL.seps SL.sep SL.Cut SL.PutAt SL.blk SL.EvP SL.Fill SL.Src SL.EntD SL.own SL.ex SL.fact SL.orig

set_option maxHeartbeats 4000000 in
theorem back_spec (W : World) (va vb : Value) (g la lb ca cb : Nat) (pa pb : Option Addr) (c t : Nat → Nat) (qa qb : Addr) (hva : va = .slice pa la ca) (hvb : vb = .slice pb lb cb) (hg : g ≤ 255)
    (hla : la ≤ 9223372036854775807) (hlb : lb ≤ 9223372036854775807) (hpa : 0 < la → pa = some qa) (hpb : 0 < lb → pb = some qb)
    (hc : ∀ i, i < la → c i ≤ 255 ∧ W.cell? (qa.add (i * 1)) = some (.int .u8 (c i))) (ht : ∀ i, i < lb → t i ≤ 65535 ∧ W.cell? (qb.add (i * 1)) = some (.int .u16 (t i))) :
    Spec Try.prog 8 [va, vb, .int .u8 g] [SL.orig W] (fun r L => r = .bool true ∧ L = [SL.orig W]) := by
  obtain ⟨n, hn⟩ : ∃ n : Nat, min (min (la : Int) lb) 12 = (n : Int) := ⟨min (min la lb) 12, by omega⟩
  have hn12 : n ≤ 12 := by omega
  have hv : 0 < n → ∃ la ca lb cb : Nat, va = .slice (some qa) la ca ∧ vb = .slice (some qb) lb cb ∧ n ≤ la ∧ n ≤ lb := fun h => ⟨la, ca, lb, cb, by rw [hva, hpa (by omega)], by rw [hvb, hpb (by omega)], by omega, by omega⟩
  have hcc : ∀ i, i < n → c i ≤ 255 ∧ W.cell? (qa.add (i * 1)) = some (.int .u8 (c i)) := fun i h => hc i (by omega)
  have htt : ∀ i, i < n → t i ≤ 65535 ∧ W.cell? (qb.add (i * 1)) = some (.int .u16 (t i)) := fun i h => ht i (by omega)
  have hin := Lib.hid (And.intro hv (And.intro hcc htt))
  clear hv hcc htt hc ht hpa hpb
  subst hva hvb
  obtain ⟨ks, C, hB⟩ := back_all (stepsOf c t n) (by rw [stepsOf_len]; exact hn12) (fun p hp => by
    obtain ⟨i, _, rfl⟩ := List.mem_map.1 hp
    show (0:Int) ≤ (t i : Int) % 1000 ∧ (t i : Int) % 1000 ≤ 999
    omega)
  obtain ⟨A, hA⟩ : ∃ A, A = sets (stepsOf c t n) [] := ⟨_, rfl⟩
  obtain ⟨B, hBe⟩ : ∃ B, B = sets (stepsOf c t n).reverse [] := ⟨_, rfl⟩
  rw [← hA, ← hBe] at hB
  have hBH := Lib.hid hB
  have hl0 := Lib.hid fun (na nb : Nat) (vg : Value) (post : Post) (k : List Item) (hk : TK Try.prog 8 Try.f8.ntmps post k [(2, vg), (8, .pointer (some ⟨na, 0, none⟩)), (10, .pointer (some ⟨nb, 0, none⟩))] [LeasesAt na A, LeasesAt nb B, SL.orig W]) =>
    back_loop0 (post := post) (k := k) W na nb n (.slice pa la ca) (.slice pb lb cb) vg c t qa qb hn12 hin.out.1 hin.out.2.1 hin.out.2.2 (by rw [← hA, ← hBe]; exact hk)
  clear hA hBe hB hin
  have hW := Lib.hid wakes_spec
  refine SL.Spec.of_TK Go.Proofs.Try.func8 rfl rfl SL.call8 rfl ?_
  repeat' (first | refine SL.W.pvn (PV.min3 (by rfl) (by rfl) (by rfl) hn) ?_ | (refine SL.TO.is ?_; first | (refine SL.TO.door (o := ⟨_, .call ⟨.value (.func 25), _, _⟩, _, _, _, _⟩) ?_; first | (refine SL.W.call (lsNew0_spec) ?_; rintro _ _ ⟨nb, rfl, rfl⟩; try simp only [List.cons_append, List.nil_append])) | refine SL.TO.nil ?_ | (refine SL.TO.nilD ?_; simp only [SL.setB]) | refine SL.W.pass ?_ | refine SL.W.pass0 ?_ | (refine SL.W.pure ?_; first | refine SL.W.pv ?_ | refine SL.W.pv0 ?_ | refine SL.W.lenMp ?_ | (refine SL.W.guardP (fun h => ?_) (fun h => ?_) <;> (fail_if_success (have : h = trivial := rfl)) <;> (fail_if_success (have : h = not_false := rfl)) <;> first | contradiction | (exfalso; omega) | (exfalso; revert h; simp; done) | skip) | (refine SL.W.guardB (fun h => ?_) (fun h => ?_) <;> (fail_if_success (have : h = (rfl : true = true) := rfl)) <;> (fail_if_success (have : h = (rfl : false = false) := rfl)))) | (refine SL.W.loud ?_; first | refine SL.W.load ?_ | refine SL.W.loadA ?_ | refine SL.W.store ?_ | refine SL.W.storeA ?_ | (refine SL.W.box ?_; intro b) | (refine SL.W.alloc ?_; intro b) | (refine SL.W.buildSlice ?_; intro b) | (refine SL.W.append ?_; intro a cap) | refine SL.W.bytesToStr ?_ | refine SL.W.pvn (SL.PV.toIntC (by rfl) (by first | exact SL.wrap_i64 (by omega) | exact SL.wrap_u8 (by omega) | exact SL.wrap_u32 (by omega) | exact SL.wrap_u64 (by omega) | rfl)) ?_ | (refine SL.W.makeSlice ?_; intro b) | refine SL.W.lookupOk ?_ | refine SL.W.lookup ?_ | (refine SL.W.makeMap ?_; intro b) | refine SL.W.mapUpdate ?_ | (refine SL.W.mapEntry ?_; intro stamp) | refine SL.W.entryStore ?_ | (refine SL.W.range ?_; intro it) | refine SL.W.delete ?_ | (refine SL.W.guardP (fun h => ?_) (fun h => ?_) <;> (fail_if_success (have : h = trivial := rfl)) <;> (fail_if_success (have : h = not_false := rfl)) <;> first | contradiction | (exfalso; omega) | (exfalso; revert h; simp; done) | skip) | (refine SL.W.guardB (fun h => ?_) (fun h => ?_) <;> (fail_if_success (have : h = (rfl : true = true) := rfl)) <;> (fail_if_success (have : h = (rfl : false = false) := rfl))))) | (refine SL.TK.lp ?_; first | refine SL.W.loop (hl0.out _ _ _ _ _ (Stop.out ?_))) | (refine SL.TK.is ?_; first | refine SL.TK.seq ?_ | refine SL.TK.region ?_ | refine SL.TK.regionD SL.mixed (by simp only [SL.falses] <;> rfl) ?_ | refine SL.TK.block ?_ | refine SL.TK.inBlock ?_ | refine SL.TK.skip ?_ | refine SL.TK.scope ?_ | refine SL.TK.inScope ?_ | refine SL.TK.label ?_ | refine SL.W.exit ?_ | refine SL.W.condT ?_ | refine SL.W.condF ?_ | (refine SL.W.condP (fun h => ?_) (fun h => ?_) <;> (fail_if_success (have : h = trivial := rfl)) <;> (fail_if_success (have : h = not_false := rfl)) <;> first | contradiction | (exfalso; omega) | (exfalso; revert h; simp; done) | skip) | refine SL.W.condB (fun h => ?_) (fun h => ?_)) | (refine SL.TD.is ?_; first | (refine SL.W.dfin ?_; simp only [List.append_nil, List.cons_append, List.nil_append]) | refine SL.W.dpass ?_ | refine SL.W.dpure ?_ | refine SL.W.dload ?_ | refine SL.W.dloadA ?_ | refine SL.W.dfrz ?_ | (refine SL.W.dthaw ?_; simp only [List.append_nil, List.cons_append, List.nil_append]) | (refine SL.W.dguardP (fun h => ?_) (fun h => ?_) <;> (fail_if_success (have : h = trivial := rfl)) <;> (fail_if_success (have : h = not_false := rfl)) <;> first | contradiction | (exfalso; omega) | (exfalso; revert h; simp; done) | skip) | (refine SL.W.dguardB (fun h => ?_) (fun h => ?_) <;> (fail_if_success (have : h = (rfl : true = true) := rfl)) <;> (fail_if_success (have : h = (rfl : false = false) := rfl))) | refine SL.W.done ?_ | refine SL.W.dtwo ?_ ?_ | refine SL.W.dthree ?_ ?_ ?_))
  refine Stop.mk ?_
  rename_i na
  obtain ⟨T, hT⟩ : ∃ T, T = prs A ks := ⟨_, rfl⟩
  have hTks : T.map (·.1) = ks := by rw [hT, prs_keys]
  have hTlen : T.length = ks.length := by rw [← hTks, List.length_map]
  have hAa := Lib.hid (all_prs na A ks T hBH.out.ka hT.symm hBH.out.la)
  have hAb := Lib.hid (all_prs nb B ks T hBH.out.kb (by rw [hT, prs, prs]; exact List.map_congr_left fun q _ => by rw [hBH.out.tb q]) hBH.out.lb)
  have hAc := Lib.hid fun nc => all_prs nc C ks T hBH.out.kc (by rw [hT, prs, prs]; exact List.map_congr_left fun q hq => by rw [hBH.out.tc q hq]) hBH.out.lc
  have hCT : C = T.reverse := by rw [hT]; exact hBH.out.ec
  obtain ⟨N, hN⟩ : ∃ N, N = T.length := ⟨_, rfl⟩
  have hNew : Hid (∀ (s : Option Addr) (c : Nat), Spec Try.prog 25 [.slice s N c] [own 78 2 s N c (prC T.reverse)] (fun r L => ∃ nc, r = .tuple #[.pointer (some ⟨nc, 0, none⟩), .int .i64 0] ∧ L = [LeasesAt nc C])) := Lib.hid fun s c => by
    have h1 := hBH.out.lc
    have h2 := new_ok s c C (by omega) hBH.out.ok
    have h3 : C.length = N := by rw [hCT, List.length_reverse, hN]
    rw [h3] at h2
    rw [← hCT]; exact h2
  obtain ⟨M, hM⟩ : ∃ M, M = others g T := ⟨_, rfl⟩
  have hMe : M = (ks.filter fun q => !decide (q = (g : Int))).length := by rw [hM, hT]; exact others_eq _ _ _
  have hMN : M ≤ N := by rw [hM, hN]; exact others_le _ _
  have hN12 : N ≤ 12 := by rw [hN, hTlen]; exact hBH.out.short
  obtain ⟨hd, hhd⟩ : ∃ hd, hd = (lkp (g : Int) C).isSome := ⟨_, rfl⟩
  have hhM : hd = decide ((M : Int) < (N : Int)) := by
    rw [hhd, hBH.out.had g, ← hMe, ← hTlen, ← hN]
    by_cases h : M < N
    · rw [decide_eq_true h, decide_eq_true (by omega)]
    · rw [decide_eq_false h, decide_eq_false (by omega)]
  obtain ⟨D, hD⟩ : ∃ D, D = dropT g C := ⟨_, rfl⟩
  have hDrop : Hid (∀ nc, Spec Try.prog 28 [.pointer (some ⟨nc, 0, none⟩), .int .u32 g] [LeasesAt nc C] (fun r L => r = .int .i64 (if hd then 0 else 6) ∧ L = [LeasesAt nc D])) := Lib.hid fun nc => by
    have := lsDrop_spec nc g C
    rw [← hhd] at this
    rw [hD, dropT, ← hhd]; exact this
  have hDl : D.length ≤ 12 := by
    have h1 : D.length = M := by
      have := hBH.out.left g
      rw [← hMe, srt_length, List.length_map, ← hD] at this
      exact this
    omega
  have hAd : Hid (∀ nc, Spec Try.prog 30 [.pointer (some ⟨nc, 0, none⟩)] [LeasesAt nc D] (fun r L => ∃ a c cs, r = .slice a M c ∧ L = [LeasesAt nc D, own 78 2 a M c cs])) := Lib.hid fun nc => by
    have h1 := lsAll_spec 12 (by omega) sort12 nc D hDl
    have h2 : (srt (D.map (·.1))).length = M := by rw [hMe, hD]; exact hBH.out.left g
    rw [h2] at h1
    exact Spec.postD h1 fun v L h => by
      obtain ⟨a, c, rfl, rfl⟩ := h
      exact ⟨_, ⟨a, c, _, rfl, rfl⟩, EntD.refl⟩
  have hLg : Hid (∀ nc, Spec Try.prog 26 [.pointer (some ⟨nc, 0, none⟩), .int .u32 g, .int .u64 0] [LeasesAt nc D] (fun r L => r = .bool false ∧ L = [LeasesAt nc D])) := Lib.hid fun nc => by
    have := lsLive_spec nc g 0 D
    rw [hD, hBH.out.drop_gone g] at this
    rw [hD]; exact this
  have e172 : Value.bool (decide ((if hd = true then (0 : Int) else 6) = 0)) = .bool hd := by cases hd <;> rfl
  have e228 : Value.bool (decide (hd = decide ((M : Int) < (N : Int)))) = .bool true := by rw [decide_eq_true hhM]
  have hTv : Hid (∀ p ∈ T, 64 ≤ p.2 ∧ p.2 ≤ 1063 ∧ (p.1 ≠ (g : Int) → til p.1 D = p.2)) := Lib.hid fun p hp => by
    rw [hT] at hp
    obtain ⟨q, hq, rfl⟩ := List.mem_map.1 hp
    have h1 := hBH.out.lo q hq
    exact ⟨h1.1, h1.2, fun h => by rw [hD]; exact hBH.out.drop_til hq h⟩
  have hTr : Hid ((T.map (·.1)).Pairwise (· < ·)) := Lib.hid (by rw [hTks]; exact hBH.out.rise)
  rw [← hN] at hAa hAb hAc
  have hC0 : Hid (N = 0 → C = [] ∧ T = []) := Lib.hid fun h => by
    have h1 : T = [] := List.eq_nil_of_length_eq_zero (by omega)
    exact ⟨by rw [hCT, h1]; rfl, h1⟩
  have hNH := Lib.hid hN
  have hMH := Lib.hid hM
  clear hhM hhd hD hMe hTks hTlen hT hCT hBH hl0 hDl hN hM
  by_cases h0 : N = 0
  · obtain ⟨hc0, ht0⟩ := hC0.out h0
    subst h0
    subst ht0
    subst hc0
    have hM0 : M = 0 := by omega
    subst hM0
    clear hTv hTr hNew hC0 hNH hMH
    repeat' (first | (refine SL.TO.is ?_; first | (refine SL.TO.door (o := ⟨_, .call ⟨.value (.func 30), _, _⟩, _, _, _, _⟩) ?_; first | (refine SL.W.call (hAa.out) ?_; rintro _ _ ⟨a1, c1, rfl, rfl⟩; try simp only [List.cons_append, List.nil_append]) | (refine SL.W.call (hAb.out) ?_; rintro _ _ ⟨a2, c2, rfl, rfl⟩; try simp only [List.cons_append, List.nil_append])) | refine SL.TO.nil ?_ | (refine SL.TO.nilD ?_; simp only [SL.setB]) | refine SL.W.pass ?_ | refine SL.W.pass0 ?_ | (refine SL.W.pure ?_; first | refine SL.W.pv ?_ | refine SL.W.pv0 ?_ | refine SL.W.lenMp ?_ | (refine SL.W.guardP (fun h => ?_) (fun h => ?_) <;> (fail_if_success (have : h = trivial := rfl)) <;> (fail_if_success (have : h = not_false := rfl)) <;> first | contradiction | (exfalso; omega) | (exfalso; revert h; simp; done) | skip) | (refine SL.W.guardB (fun h => ?_) (fun h => ?_) <;> (fail_if_success (have : h = (rfl : true = true) := rfl)) <;> (fail_if_success (have : h = (rfl : false = false) := rfl)))) | (refine SL.W.loud ?_; first | refine SL.W.load ?_ | refine SL.W.loadA ?_ | refine SL.W.store ?_ | refine SL.W.storeA ?_ | (refine SL.W.box ?_; intro b) | (refine SL.W.alloc ?_; intro b) | (refine SL.W.buildSlice ?_; intro b) | (refine SL.W.append ?_; intro a cap) | refine SL.W.bytesToStr ?_ | refine SL.W.pvn (SL.PV.toIntC (by rfl) (by first | exact SL.wrap_i64 (by omega) | exact SL.wrap_u8 (by omega) | exact SL.wrap_u32 (by omega) | exact SL.wrap_u64 (by omega) | rfl)) ?_ | (refine SL.W.makeSlice ?_; intro b) | refine SL.W.lookupOk ?_ | refine SL.W.lookup ?_ | (refine SL.W.makeMap ?_; intro b) | refine SL.W.mapUpdate ?_ | (refine SL.W.mapEntry ?_; intro stamp) | refine SL.W.entryStore ?_ | (refine SL.W.range ?_; intro it) | refine SL.W.delete ?_ | (refine SL.W.guardP (fun h => ?_) (fun h => ?_) <;> (fail_if_success (have : h = trivial := rfl)) <;> (fail_if_success (have : h = not_false := rfl)) <;> first | contradiction | (exfalso; omega) | (exfalso; revert h; simp; done) | skip) | (refine SL.W.guardB (fun h => ?_) (fun h => ?_) <;> (fail_if_success (have : h = (rfl : true = true) := rfl)) <;> (fail_if_success (have : h = (rfl : false = false) := rfl))))) | (refine SL.TK.lp ?_; first | (refine SL.TK.block ?_; refine SL.TK.loopD (fun ρ L m => ρ = [(2, .int .u8 g), (14, .slice a1 0 c1), (16, .slice none 0 0), (17, .int .i64 0)] ∧ L = [SL.orig W] ∧ m = 0) ?_ (m0 := 0) ⟨rfl, rfl, rfl⟩ (by first | ((repeat (first | exact SL.Sub.nil | refine SL.Sub.cons (by rfl) (by first | rfl | exact SL.int_eq (by omega)) ?_)); done) | fail) (EntD.cons (by first | ((repeat (first | exact SL.Pick.head | apply SL.Pick.tail)); done) | fail) EntD.nil))) | (refine SL.TK.is ?_; first | refine SL.TK.seq ?_ | refine SL.TK.region ?_ | refine SL.TK.regionD SL.mixed (by simp only [SL.falses] <;> rfl) ?_ | refine SL.TK.block ?_ | refine SL.TK.inBlock ?_ | refine SL.TK.skip ?_ | refine SL.TK.scope ?_ | refine SL.TK.inScope ?_ | refine SL.TK.label ?_ | refine SL.W.exit ?_ | refine SL.W.condT ?_ | refine SL.W.condF ?_ | (refine SL.W.condP (fun h => ?_) (fun h => ?_) <;> (fail_if_success (have : h = trivial := rfl)) <;> (fail_if_success (have : h = not_false := rfl)) <;> first | contradiction | (exfalso; omega) | (exfalso; revert h; simp; done) | skip) | refine SL.W.condB (fun h => ?_) (fun h => ?_)) | (refine SL.TD.is ?_; first | (refine SL.W.dfin ?_; simp only [List.append_nil, List.cons_append, List.nil_append]) | refine SL.W.dpass ?_ | refine SL.W.dpure ?_ | refine SL.W.dload ?_ | refine SL.W.dloadA ?_ | refine SL.W.dfrz ?_ | (refine SL.W.dthaw ?_; simp only [List.append_nil, List.cons_append, List.nil_append]) | (refine SL.W.dguardP (fun h => ?_) (fun h => ?_) <;> (fail_if_success (have : h = trivial := rfl)) <;> (fail_if_success (have : h = not_false := rfl)) <;> first | contradiction | (exfalso; omega) | (exfalso; revert h; simp; done) | skip) | (refine SL.W.dguardB (fun h => ?_) (fun h => ?_) <;> (fail_if_success (have : h = (rfl : true = true) := rfl)) <;> (fail_if_success (have : h = (rfl : false = false) := rfl))) | refine SL.W.done ?_ | refine SL.W.dtwo ?_ ?_ | refine SL.W.dthree ?_ ?_ ?_))
    rintro ρ L m ⟨rfl, rfl, rfl⟩ ih
    clear ih
    repeat' (first | (refine SL.TO.is ?_; first | refine SL.TO.slot (d := 228) (by rfl) e228 ?_ | (refine SL.TO.door (o := ⟨_, .call ⟨.value (.func 25), _, _⟩, _, _, _, _⟩) ?_; first | (refine SL.W.call (lsNew0_spec) ?_; rintro _ _ ⟨nc, rfl, rfl⟩; try simp only [List.cons_append, List.nil_append])) | (refine SL.TO.door (o := ⟨_, .call ⟨.value (.func 30), _, _⟩, _, _, _, _⟩) ?_; first | (refine SL.W.call (hAc.out _) ?_; rintro _ _ ⟨a3, c3, rfl, rfl⟩; try simp only [List.cons_append, List.nil_append]) | (refine SL.W.call (hAd.out _) ?_; rintro _ _ ⟨a4, c4, cs4, rfl, rfl⟩; try simp only [List.cons_append, List.nil_append])) | (refine SL.TO.door (o := ⟨_, .call ⟨.value (.func 28), _, _⟩, _, _, _, _⟩) ?_; first | (refine SL.W.call (hDrop.out _) ?_; rintro _ _ ⟨rfl, rfl⟩; try simp only [List.cons_append, List.nil_append])) | (refine SL.TO.door (o := ⟨_, .call ⟨.value (.func 26), _, _⟩, _, _, _, _⟩) ?_; first | (refine SL.W.call (hLg.out _) ?_; rintro _ _ ⟨rfl, rfl⟩; try simp only [List.cons_append, List.nil_append])) | (refine SL.TO.door (o := ⟨_, .call ⟨.value (.func 29), _, _⟩, _, _, _, _⟩) ?_; first | (refine SL.W.call (hW.out) ?_; rintro _ _ ⟨rfl, rfl⟩; try simp only [List.cons_append, List.nil_append])) | refine SL.TO.nil ?_ | (refine SL.TO.nilD ?_; simp only [SL.setB]) | refine SL.W.pass ?_ | refine SL.W.pass0 ?_ | (refine SL.W.pure ?_; first | refine SL.W.pv ?_ | refine SL.W.pv0 ?_ | refine SL.W.lenMp ?_ | (refine SL.W.guardP (fun h => ?_) (fun h => ?_) <;> (fail_if_success (have : h = trivial := rfl)) <;> (fail_if_success (have : h = not_false := rfl)) <;> first | contradiction | (exfalso; omega) | (exfalso; revert h; simp; done) | skip) | (refine SL.W.guardB (fun h => ?_) (fun h => ?_) <;> (fail_if_success (have : h = (rfl : true = true) := rfl)) <;> (fail_if_success (have : h = (rfl : false = false) := rfl)))) | (refine SL.W.loud ?_; first | refine SL.W.load ?_ | refine SL.W.loadA ?_ | refine SL.W.store ?_ | refine SL.W.storeA ?_ | (refine SL.W.box ?_; intro b) | (refine SL.W.alloc ?_; intro b) | (refine SL.W.buildSlice ?_; intro b) | (refine SL.W.append ?_; intro a cap) | refine SL.W.bytesToStr ?_ | refine SL.W.pvn (SL.PV.toIntC (by rfl) (by first | exact SL.wrap_i64 (by omega) | exact SL.wrap_u8 (by omega) | exact SL.wrap_u32 (by omega) | exact SL.wrap_u64 (by omega) | rfl)) ?_ | (refine SL.W.makeSlice ?_; intro b) | refine SL.W.lookupOk ?_ | refine SL.W.lookup ?_ | (refine SL.W.makeMap ?_; intro b) | refine SL.W.mapUpdate ?_ | (refine SL.W.mapEntry ?_; intro stamp) | refine SL.W.entryStore ?_ | (refine SL.W.range ?_; intro it) | refine SL.W.delete ?_ | (refine SL.W.guardP (fun h => ?_) (fun h => ?_) <;> (fail_if_success (have : h = trivial := rfl)) <;> (fail_if_success (have : h = not_false := rfl)) <;> first | contradiction | (exfalso; omega) | (exfalso; revert h; simp; done) | skip) | (refine SL.W.guardB (fun h => ?_) (fun h => ?_) <;> (fail_if_success (have : h = (rfl : true = true) := rfl)) <;> (fail_if_success (have : h = (rfl : false = false) := rfl))))) | (refine SL.TK.lp ?_; first | (refine SL.TK.block ?_; refine SL.TK.loopD (fun ρ L m => ρ = [(2, .int .u8 g), (14, .slice a1 0 c1), (18, .pointer (some ⟨nc, 0, none⟩)), (20, .int .i64 0)] ∧ L = [LeasesAt nc [], SL.orig W] ∧ m = 0) ?_ (m0 := 0) ⟨rfl, rfl, rfl⟩ (by first | ((repeat (first | exact SL.Sub.nil | refine SL.Sub.cons (by rfl) (by first | rfl | exact SL.int_eq (by omega)) ?_)); done) | fail) (EntD.cons (by first | ((repeat (first | exact SL.Pick.head | apply SL.Pick.tail)); done) | fail) (EntD.cons (by first | ((repeat (first | exact SL.Pick.head | apply SL.Pick.tail)); done) | fail) EntD.nil)))) | (refine SL.TK.is ?_; first | refine SL.TK.slot (d := 172) (by rfl) e172 ?_ | refine SL.TK.slot (d := 21) (by rfl) e172 ?_ | refine SL.TK.seq ?_ | refine SL.TK.region ?_ | refine SL.TK.regionD SL.mixed (by simp only [SL.falses] <;> rfl) ?_ | refine SL.TK.block ?_ | refine SL.TK.inBlock ?_ | refine SL.TK.skip ?_ | refine SL.TK.scope ?_ | refine SL.TK.inScope ?_ | refine SL.TK.label ?_ | refine SL.W.exit ?_ | refine SL.W.condT ?_ | refine SL.W.condF ?_ | (refine SL.W.condP (fun h => ?_) (fun h => ?_) <;> (fail_if_success (have : h = trivial := rfl)) <;> (fail_if_success (have : h = not_false := rfl)) <;> first | contradiction | (exfalso; omega) | (exfalso; revert h; simp; done) | skip) | refine SL.W.condB (fun h => ?_) (fun h => ?_)) | (refine SL.TD.is ?_; first | (refine SL.W.dfin ?_; simp only [List.append_nil, List.cons_append, List.nil_append]) | refine SL.W.dpass ?_ | refine SL.W.dpure ?_ | refine SL.W.dload ?_ | refine SL.W.dloadA ?_ | refine SL.W.dfrz ?_ | (refine SL.W.dthaw ?_; simp only [List.append_nil, List.cons_append, List.nil_append]) | (refine SL.W.dguardP (fun h => ?_) (fun h => ?_) <;> (fail_if_success (have : h = trivial := rfl)) <;> (fail_if_success (have : h = not_false := rfl)) <;> first | contradiction | (exfalso; omega) | (exfalso; revert h; simp; done) | skip) | (refine SL.W.dguardB (fun h => ?_) (fun h => ?_) <;> (fail_if_success (have : h = (rfl : true = true) := rfl)) <;> (fail_if_success (have : h = (rfl : false = false) := rfl))) | refine SL.W.done ?_ | refine SL.W.dtwo ?_ ?_ | refine SL.W.dthree ?_ ?_ ?_))
    rintro ρ L m ⟨rfl, rfl, rfl⟩ ih
    clear ih
    repeat' (first | (refine SL.TO.is ?_; first | refine SL.TO.slot (d := 228) (by rfl) e228 ?_ | (refine SL.TO.door (o := ⟨_, .call ⟨.value (.func 30), _, _⟩, _, _, _, _⟩) ?_; first | (refine SL.W.call (hAc.out _) ?_; rintro _ _ ⟨a3, c3, rfl, rfl⟩; try simp only [List.cons_append, List.nil_append]) | (refine SL.W.call (hAd.out _) ?_; rintro _ _ ⟨a4, c4, cs4, rfl, rfl⟩; try simp only [List.cons_append, List.nil_append])) | (refine SL.TO.door (o := ⟨_, .call ⟨.value (.func 28), _, _⟩, _, _, _, _⟩) ?_; first | (refine SL.W.call (hDrop.out _) ?_; rintro _ _ ⟨rfl, rfl⟩; try simp only [List.cons_append, List.nil_append])) | (refine SL.TO.door (o := ⟨_, .call ⟨.value (.func 26), _, _⟩, _, _, _, _⟩) ?_; first | (refine SL.W.call (hLg.out _) ?_; rintro _ _ ⟨rfl, rfl⟩; try simp only [List.cons_append, List.nil_append])) | (refine SL.TO.door (o := ⟨_, .call ⟨.value (.func 29), _, _⟩, _, _, _, _⟩) ?_; first | (refine SL.W.call (hW.out) ?_; rintro _ _ ⟨rfl, rfl⟩; try simp only [List.cons_append, List.nil_append])) | refine SL.TO.nil ?_ | (refine SL.TO.nilD ?_; simp only [SL.setB]) | refine SL.W.pass ?_ | refine SL.W.pass0 ?_ | (refine SL.W.pure ?_; first | refine SL.W.pv ?_ | refine SL.W.pv0 ?_ | refine SL.W.lenMp ?_ | (refine SL.W.guardP (fun h => ?_) (fun h => ?_) <;> (fail_if_success (have : h = trivial := rfl)) <;> (fail_if_success (have : h = not_false := rfl)) <;> first | contradiction | (exfalso; omega) | (exfalso; revert h; simp; done) | skip) | (refine SL.W.guardB (fun h => ?_) (fun h => ?_) <;> (fail_if_success (have : h = (rfl : true = true) := rfl)) <;> (fail_if_success (have : h = (rfl : false = false) := rfl)))) | (refine SL.W.loud ?_; first | refine SL.W.load ?_ | refine SL.W.loadA ?_ | refine SL.W.store ?_ | refine SL.W.storeA ?_ | (refine SL.W.box ?_; intro b) | (refine SL.W.alloc ?_; intro b) | (refine SL.W.buildSlice ?_; intro b) | (refine SL.W.append ?_; intro a cap) | refine SL.W.bytesToStr ?_ | refine SL.W.pvn (SL.PV.toIntC (by rfl) (by first | exact SL.wrap_i64 (by omega) | exact SL.wrap_u8 (by omega) | exact SL.wrap_u32 (by omega) | exact SL.wrap_u64 (by omega) | rfl)) ?_ | (refine SL.W.makeSlice ?_; intro b) | refine SL.W.lookupOk ?_ | refine SL.W.lookup ?_ | (refine SL.W.makeMap ?_; intro b) | refine SL.W.mapUpdate ?_ | (refine SL.W.mapEntry ?_; intro stamp) | refine SL.W.entryStore ?_ | (refine SL.W.range ?_; intro it) | refine SL.W.delete ?_ | (refine SL.W.guardP (fun h => ?_) (fun h => ?_) <;> (fail_if_success (have : h = trivial := rfl)) <;> (fail_if_success (have : h = not_false := rfl)) <;> first | contradiction | (exfalso; omega) | (exfalso; revert h; simp; done) | skip) | (refine SL.W.guardB (fun h => ?_) (fun h => ?_) <;> (fail_if_success (have : h = (rfl : true = true) := rfl)) <;> (fail_if_success (have : h = (rfl : false = false) := rfl))))) | (refine SL.TK.lp ?_; first | (refine SL.TK.block ?_; refine SL.TK.loopD (fun ρ L m => ρ = [(2, .int .u8 g), (14, .slice a1 0 c1), (18, .pointer (some ⟨nc, 0, none⟩)), (21, .bool hd), (22, .int .i64 0), (23, .int .i64 0)] ∧ L = [LeasesAt nc D, SL.orig W] ∧ m = 0) ?_ (m0 := 0) ⟨rfl, rfl, rfl⟩ (by first | ((repeat (first | exact SL.Sub.nil | refine SL.Sub.cons (by rfl) (by first | rfl | exact SL.int_eq (by omega)) ?_)); done) | fail) (EntD.cons (by first | ((repeat (first | exact SL.Pick.head | apply SL.Pick.tail)); done) | fail) (EntD.cons (by first | ((repeat (first | exact SL.Pick.head | apply SL.Pick.tail)); done) | fail) EntD.nil)))) | (refine SL.TK.is ?_; first | refine SL.TK.slot (d := 172) (by rfl) e172 ?_ | refine SL.TK.slot (d := 21) (by rfl) e172 ?_ | refine SL.TK.seq ?_ | refine SL.TK.region ?_ | refine SL.TK.regionD SL.mixed (by simp only [SL.falses] <;> rfl) ?_ | refine SL.TK.block ?_ | refine SL.TK.inBlock ?_ | refine SL.TK.skip ?_ | refine SL.TK.scope ?_ | refine SL.TK.inScope ?_ | refine SL.TK.label ?_ | refine SL.W.exit ?_ | refine SL.W.condT ?_ | refine SL.W.condF ?_ | (refine SL.W.condP (fun h => ?_) (fun h => ?_) <;> (fail_if_success (have : h = trivial := rfl)) <;> (fail_if_success (have : h = not_false := rfl)) <;> first | contradiction | (exfalso; omega) | (exfalso; revert h; simp; done) | skip) | refine SL.W.condB (fun h => ?_) (fun h => ?_)) | (refine SL.TD.is ?_; first | (refine SL.W.dfin ?_; simp only [List.append_nil, List.cons_append, List.nil_append]) | refine SL.W.dpass ?_ | refine SL.W.dpure ?_ | refine SL.W.dload ?_ | refine SL.W.dloadA ?_ | refine SL.W.dfrz ?_ | (refine SL.W.dthaw ?_; simp only [List.append_nil, List.cons_append, List.nil_append]) | (refine SL.W.dguardP (fun h => ?_) (fun h => ?_) <;> (fail_if_success (have : h = trivial := rfl)) <;> (fail_if_success (have : h = not_false := rfl)) <;> first | contradiction | (exfalso; omega) | (exfalso; revert h; simp; done) | skip) | (refine SL.W.dguardB (fun h => ?_) (fun h => ?_) <;> (fail_if_success (have : h = (rfl : true = true) := rfl)) <;> (fail_if_success (have : h = (rfl : false = false) := rfl))) | refine SL.W.done ?_ | refine SL.W.dtwo ?_ ?_ | refine SL.W.dthree ?_ ?_ ?_))
    rintro ρ L m ⟨rfl, rfl, rfl⟩ ih
    clear ih
    repeat' (first | (refine SL.TO.is ?_; first | refine SL.TO.slot (d := 228) (by rfl) e228 ?_ | (refine SL.TO.door (o := ⟨_, .call ⟨.value (.func 30), _, _⟩, _, _, _, _⟩) ?_; first | (refine SL.W.call (hAc.out _) ?_; rintro _ _ ⟨a3, c3, rfl, rfl⟩; try simp only [List.cons_append, List.nil_append]) | (refine SL.W.call (hAd.out _) ?_; rintro _ _ ⟨a4, c4, cs4, rfl, rfl⟩; try simp only [List.cons_append, List.nil_append])) | (refine SL.TO.door (o := ⟨_, .call ⟨.value (.func 28), _, _⟩, _, _, _, _⟩) ?_; first | (refine SL.W.call (hDrop.out _) ?_; rintro _ _ ⟨rfl, rfl⟩; try simp only [List.cons_append, List.nil_append])) | (refine SL.TO.door (o := ⟨_, .call ⟨.value (.func 26), _, _⟩, _, _, _, _⟩) ?_; first | (refine SL.W.call (hLg.out _) ?_; rintro _ _ ⟨rfl, rfl⟩; try simp only [List.cons_append, List.nil_append])) | (refine SL.TO.door (o := ⟨_, .call ⟨.value (.func 29), _, _⟩, _, _, _, _⟩) ?_; first | (refine SL.W.call (hW.out) ?_; rintro _ _ ⟨rfl, rfl⟩; try simp only [List.cons_append, List.nil_append])) | refine SL.TO.nil ?_ | (refine SL.TO.nilD ?_; simp only [SL.setB]) | refine SL.W.pass ?_ | refine SL.W.pass0 ?_ | (refine SL.W.pure ?_; first | refine SL.W.pv ?_ | refine SL.W.pv0 ?_ | refine SL.W.lenMp ?_ | (refine SL.W.guardP (fun h => ?_) (fun h => ?_) <;> (fail_if_success (have : h = trivial := rfl)) <;> (fail_if_success (have : h = not_false := rfl)) <;> first | contradiction | (exfalso; omega) | (exfalso; revert h; simp; done) | skip) | (refine SL.W.guardB (fun h => ?_) (fun h => ?_) <;> (fail_if_success (have : h = (rfl : true = true) := rfl)) <;> (fail_if_success (have : h = (rfl : false = false) := rfl)))) | (refine SL.W.loud ?_; first | refine SL.W.load ?_ | refine SL.W.loadA ?_ | refine SL.W.store ?_ | refine SL.W.storeA ?_ | (refine SL.W.box ?_; intro b) | (refine SL.W.alloc ?_; intro b) | (refine SL.W.buildSlice ?_; intro b) | (refine SL.W.append ?_; intro a cap) | refine SL.W.bytesToStr ?_ | refine SL.W.pvn (SL.PV.toIntC (by rfl) (by first | exact SL.wrap_i64 (by omega) | exact SL.wrap_u8 (by omega) | exact SL.wrap_u32 (by omega) | exact SL.wrap_u64 (by omega) | rfl)) ?_ | (refine SL.W.makeSlice ?_; intro b) | refine SL.W.lookupOk ?_ | refine SL.W.lookup ?_ | (refine SL.W.makeMap ?_; intro b) | refine SL.W.mapUpdate ?_ | (refine SL.W.mapEntry ?_; intro stamp) | refine SL.W.entryStore ?_ | (refine SL.W.range ?_; intro it) | refine SL.W.delete ?_ | (refine SL.W.guardP (fun h => ?_) (fun h => ?_) <;> (fail_if_success (have : h = trivial := rfl)) <;> (fail_if_success (have : h = not_false := rfl)) <;> first | contradiction | (exfalso; omega) | (exfalso; revert h; simp; done) | skip) | (refine SL.W.guardB (fun h => ?_) (fun h => ?_) <;> (fail_if_success (have : h = (rfl : true = true) := rfl)) <;> (fail_if_success (have : h = (rfl : false = false) := rfl))))) | (refine SL.TK.is ?_; first | refine SL.TK.slot (d := 172) (by rfl) e172 ?_ | refine SL.TK.slot (d := 21) (by rfl) e172 ?_ | refine SL.TK.seq ?_ | refine SL.TK.region ?_ | refine SL.TK.regionD SL.mixed (by simp only [SL.falses] <;> rfl) ?_ | refine SL.TK.block ?_ | refine SL.TK.inBlock ?_ | refine SL.TK.skip ?_ | refine SL.TK.scope ?_ | refine SL.TK.inScope ?_ | refine SL.TK.label ?_ | refine SL.W.exit ?_ | refine SL.W.condT ?_ | refine SL.W.condF ?_ | (refine SL.W.condP (fun h => ?_) (fun h => ?_) <;> (fail_if_success (have : h = trivial := rfl)) <;> (fail_if_success (have : h = not_false := rfl)) <;> first | contradiction | (exfalso; omega) | (exfalso; revert h; simp; done) | skip) | refine SL.W.condB (fun h => ?_) (fun h => ?_)) | (refine SL.TD.is ?_; first | (refine SL.W.dfin ?_; simp only [List.append_nil, List.cons_append, List.nil_append]) | refine SL.W.dpass ?_ | refine SL.W.dpure ?_ | refine SL.W.dload ?_ | refine SL.W.dloadA ?_ | refine SL.W.dfrz ?_ | (refine SL.W.dthaw ?_; simp only [List.append_nil, List.cons_append, List.nil_append]) | (refine SL.W.dguardP (fun h => ?_) (fun h => ?_) <;> (fail_if_success (have : h = trivial := rfl)) <;> (fail_if_success (have : h = not_false := rfl)) <;> first | contradiction | (exfalso; omega) | (exfalso; revert h; simp; done) | skip) | (refine SL.W.dguardB (fun h => ?_) (fun h => ?_) <;> (fail_if_success (have : h = (rfl : true = true) := rfl)) <;> (fail_if_success (have : h = (rfl : false = false) := rfl))) | refine SL.W.done ?_ | refine SL.W.dtwo ?_ ?_ | refine SL.W.dthree ?_ ?_ ?_))
    all_goals exact SL.TK.retD Try.func8 (SL.Res.one rfl (by rfl)) ⟨rfl, rfl⟩ (EntD.cons (by first | ((repeat (first | exact SL.Pick.head | apply SL.Pick.tail)); done) | fail) EntD.nil)
  · repeat' (first | (refine SL.TO.is ?_; first | refine SL.TO.slot (d := 228) (by rfl) e228 ?_ | (refine SL.TO.door (o := ⟨_, .call ⟨.value (.func 30), _, _⟩, _, _, _, _⟩) ?_; first | (refine SL.W.call (hAa.out) ?_; rintro _ _ ⟨a1, c1, rfl, rfl⟩; try simp only [List.cons_append, List.nil_append]) | (refine SL.W.call (hAb.out) ?_; rintro _ _ ⟨a2, c2, rfl, rfl⟩; try simp only [List.cons_append, List.nil_append]) | (refine SL.W.call (hAc.out _) ?_; rintro _ _ ⟨a3, c3, rfl, rfl⟩; try simp only [List.cons_append, List.nil_append]) | (refine SL.W.call (hAd.out _) ?_; rintro _ _ ⟨a4, c4, cs4, rfl, rfl⟩; try simp only [List.cons_append, List.nil_append])) | (refine SL.TO.door (o := ⟨_, .call ⟨.value (.func 25), _, _⟩, _, _, _, _⟩) ?_; first | (refine SL.W.call (hNew.out _ _) ?_; rintro _ _ ⟨nc, rfl, rfl⟩; try simp only [List.cons_append, List.nil_append])) | (refine SL.TO.door (o := ⟨_, .call ⟨.value (.func 28), _, _⟩, _, _, _, _⟩) ?_; first | (refine SL.W.call (hDrop.out _) ?_; rintro _ _ ⟨rfl, rfl⟩; try simp only [List.cons_append, List.nil_append])) | (refine SL.TO.door (o := ⟨_, .call ⟨.value (.func 26), _, _⟩, _, _, _, _⟩) ?_; first | (refine SL.W.call (hLg.out _) ?_; rintro _ _ ⟨rfl, rfl⟩; try simp only [List.cons_append, List.nil_append])) | (refine SL.TO.door (o := ⟨_, .call ⟨.value (.func 29), _, _⟩, _, _, _, _⟩) ?_; first | (refine SL.W.call (hW.out) ?_; rintro _ _ ⟨rfl, rfl⟩; try simp only [List.cons_append, List.nil_append])) | refine SL.TO.nil ?_ | (refine SL.TO.nilD ?_; simp only [SL.setB]) | refine SL.W.pass ?_ | refine SL.W.pass0 ?_ | (refine SL.W.pure ?_; first | refine SL.W.pv ?_ | refine SL.W.pv0 ?_ | refine SL.W.lenMp ?_ | (refine SL.W.guardP (fun h => ?_) (fun h => ?_) <;> (fail_if_success (have : h = trivial := rfl)) <;> (fail_if_success (have : h = not_false := rfl)) <;> first | contradiction | (exfalso; omega) | (exfalso; revert h; simp; done) | skip) | (refine SL.W.guardB (fun h => ?_) (fun h => ?_) <;> (fail_if_success (have : h = (rfl : true = true) := rfl)) <;> (fail_if_success (have : h = (rfl : false = false) := rfl)))) | (refine SL.W.loud ?_; first | refine SL.W.load ?_ | refine SL.W.loadA ?_ | refine SL.W.store ?_ | refine SL.W.storeA ?_ | (refine SL.W.box ?_; intro b) | (refine SL.W.alloc ?_; intro b) | (refine SL.W.buildSlice ?_; intro b) | (refine SL.W.append ?_; intro a cap) | refine SL.W.bytesToStr ?_ | refine SL.W.pvn (SL.PV.toIntC (by rfl) (by first | exact SL.wrap_i64 (by omega) | exact SL.wrap_u8 (by omega) | exact SL.wrap_u32 (by omega) | exact SL.wrap_u64 (by omega) | rfl)) ?_ | (refine SL.W.makeSlice ?_; intro b) | refine SL.W.lookupOk ?_ | refine SL.W.lookup ?_ | (refine SL.W.makeMap ?_; intro b) | refine SL.W.mapUpdate ?_ | (refine SL.W.mapEntry ?_; intro stamp) | refine SL.W.entryStore ?_ | (refine SL.W.range ?_; intro it) | refine SL.W.delete ?_ | (refine SL.W.guardP (fun h => ?_) (fun h => ?_) <;> (fail_if_success (have : h = trivial := rfl)) <;> (fail_if_success (have : h = not_false := rfl)) <;> first | contradiction | (exfalso; omega) | (exfalso; revert h; simp; done) | skip) | (refine SL.W.guardB (fun h => ?_) (fun h => ?_) <;> (fail_if_success (have : h = (rfl : true = true) := rfl)) <;> (fail_if_success (have : h = (rfl : false = false) := rfl))))) | (refine SL.TK.lp ?_; first | (refine SL.TK.ownPos (e := 78) (sz := 2) (a := a1) (by first | ((repeat (first | exact SL.Pick.head | apply SL.Pick.tail)); done) | fail) (by omega) (fun bl exl ea e1 e2 e3 => ?_); subst ea; refine SL.TK.ownPos (e := 78) (sz := 2) (a := a2) (by first | ((repeat (first | exact SL.Pick.head | apply SL.Pick.tail)); done) | fail) (by omega) (fun bm exm eb e4 e5 e6 => ?_); subst eb; clear e1 e2 e4 e5; refine SL.TK.entD (L' := own 78 2 none 0 0 [] :: _) (EntD.of_ent (Ent.own_nil Ent.refl)) ?_; refine SL.W.loop (back_loop1 W bl bm N c1 c2 (.int .u8 g) exl exm T hNH.out.symm hN12 e3 e6 hTr.out (fun s5 c5 => ?_))) | refine SL.W.loop (back_loop2 W bl N c1 nc (.int .u8 g) exl T C hNH.out.symm hN12 e3 (hAc.out nc) ?_) | refine SL.W.loop (back_loop3 W bl N c1 nc g hd exl T D hNH.out.symm hN12 e3 (by omega) hTv.out (Stop.out ?_))) | (refine SL.TK.is ?_; first | refine SL.TK.slot (d := 172) (by rfl) e172 ?_ | refine SL.TK.slot (d := 21) (by rfl) e172 ?_ | refine SL.TK.seq ?_ | refine SL.TK.region ?_ | refine SL.TK.regionD SL.mixed (by simp only [SL.falses] <;> rfl) ?_ | refine SL.TK.block ?_ | refine SL.TK.inBlock ?_ | refine SL.TK.skip ?_ | refine SL.TK.scope ?_ | refine SL.TK.inScope ?_ | refine SL.TK.label ?_ | refine SL.W.exit ?_ | refine SL.W.condT ?_ | refine SL.W.condF ?_ | (refine SL.W.condP (fun h => ?_) (fun h => ?_) <;> (fail_if_success (have : h = trivial := rfl)) <;> (fail_if_success (have : h = not_false := rfl)) <;> first | contradiction | (exfalso; omega) | (exfalso; revert h; simp; done) | skip) | refine SL.W.condB (fun h => ?_) (fun h => ?_)) | (refine SL.TD.is ?_; first | (refine SL.W.dfin ?_; simp only [List.append_nil, List.cons_append, List.nil_append]) | refine SL.W.dpass ?_ | refine SL.W.dpure ?_ | refine SL.W.dload ?_ | refine SL.W.dloadA ?_ | refine SL.W.dfrz ?_ | (refine SL.W.dthaw ?_; simp only [List.append_nil, List.cons_append, List.nil_append]) | (refine SL.W.dguardP (fun h => ?_) (fun h => ?_) <;> (fail_if_success (have : h = trivial := rfl)) <;> (fail_if_success (have : h = not_false := rfl)) <;> first | contradiction | (exfalso; omega) | (exfalso; revert h; simp; done) | skip) | (refine SL.W.dguardB (fun h => ?_) (fun h => ?_) <;> (fail_if_success (have : h = (rfl : true = true) := rfl)) <;> (fail_if_success (have : h = (rfl : false = false) := rfl))) | refine SL.W.done ?_ | refine SL.W.dtwo ?_ ?_ | refine SL.W.dthree ?_ ?_ ?_))
    refine Stop.mk ?_
    rw [← hMH.out]
    clear hC0 hTv hTr hNew hAa hAb hAc hDrop
    repeat' (first | (refine SL.TO.is ?_; first | refine SL.TO.slot (d := 228) (by rfl) e228 ?_ | (refine SL.TO.door (o := ⟨_, .call ⟨.value (.func 30), _, _⟩, _, _, _, _⟩) ?_; first | (refine SL.W.call (hAd.out _) ?_; rintro _ _ ⟨a4, c4, cs4, rfl, rfl⟩; try simp only [List.cons_append, List.nil_append])) | (refine SL.TO.door (o := ⟨_, .call ⟨.value (.func 26), _, _⟩, _, _, _, _⟩) ?_; first | (refine SL.W.call (hLg.out _) ?_; rintro _ _ ⟨rfl, rfl⟩; try simp only [List.cons_append, List.nil_append])) | (refine SL.TO.door (o := ⟨_, .call ⟨.value (.func 29), _, _⟩, _, _, _, _⟩) ?_; first | (refine SL.W.call (hW.out) ?_; rintro _ _ ⟨rfl, rfl⟩; try simp only [List.cons_append, List.nil_append])) | refine SL.TO.nil ?_ | (refine SL.TO.nilD ?_; simp only [SL.setB]) | refine SL.W.pass ?_ | refine SL.W.pass0 ?_ | (refine SL.W.pure ?_; first | refine SL.W.pv ?_ | refine SL.W.pv0 ?_ | refine SL.W.lenMp ?_ | (refine SL.W.guardP (fun h => ?_) (fun h => ?_) <;> (fail_if_success (have : h = trivial := rfl)) <;> (fail_if_success (have : h = not_false := rfl)) <;> first | contradiction | (exfalso; omega) | (exfalso; revert h; simp; done) | skip) | (refine SL.W.guardB (fun h => ?_) (fun h => ?_) <;> (fail_if_success (have : h = (rfl : true = true) := rfl)) <;> (fail_if_success (have : h = (rfl : false = false) := rfl)))) | (refine SL.W.loud ?_; first | refine SL.W.load ?_ | refine SL.W.loadA ?_ | refine SL.W.store ?_ | refine SL.W.storeA ?_ | (refine SL.W.box ?_; intro b) | (refine SL.W.alloc ?_; intro b) | (refine SL.W.buildSlice ?_; intro b) | (refine SL.W.append ?_; intro a cap) | refine SL.W.bytesToStr ?_ | refine SL.W.pvn (SL.PV.toIntC (by rfl) (by first | exact SL.wrap_i64 (by omega) | exact SL.wrap_u8 (by omega) | exact SL.wrap_u32 (by omega) | exact SL.wrap_u64 (by omega) | rfl)) ?_ | (refine SL.W.makeSlice ?_; intro b) | refine SL.W.lookupOk ?_ | refine SL.W.lookup ?_ | (refine SL.W.makeMap ?_; intro b) | refine SL.W.mapUpdate ?_ | (refine SL.W.mapEntry ?_; intro stamp) | refine SL.W.entryStore ?_ | (refine SL.W.range ?_; intro it) | refine SL.W.delete ?_ | (refine SL.W.guardP (fun h => ?_) (fun h => ?_) <;> (fail_if_success (have : h = trivial := rfl)) <;> (fail_if_success (have : h = not_false := rfl)) <;> first | contradiction | (exfalso; omega) | (exfalso; revert h; simp; done) | skip) | (refine SL.W.guardB (fun h => ?_) (fun h => ?_) <;> (fail_if_success (have : h = (rfl : true = true) := rfl)) <;> (fail_if_success (have : h = (rfl : false = false) := rfl))))) | (refine SL.TK.is ?_; first | refine SL.TK.seq ?_ | refine SL.TK.region ?_ | refine SL.TK.regionD SL.mixed (by simp only [SL.falses] <;> rfl) ?_ | refine SL.TK.block ?_ | refine SL.TK.inBlock ?_ | refine SL.TK.skip ?_ | refine SL.TK.scope ?_ | refine SL.TK.inScope ?_ | refine SL.TK.label ?_ | refine SL.W.exit ?_ | refine SL.W.condT ?_ | refine SL.W.condF ?_ | (refine SL.W.condP (fun h => ?_) (fun h => ?_) <;> (fail_if_success (have : h = trivial := rfl)) <;> (fail_if_success (have : h = not_false := rfl)) <;> first | contradiction | (exfalso; omega) | (exfalso; revert h; simp; done) | skip) | refine SL.W.condB (fun h => ?_) (fun h => ?_)) | (refine SL.TD.is ?_; first | (refine SL.W.dfin ?_; simp only [List.append_nil, List.cons_append, List.nil_append]) | refine SL.W.dpass ?_ | refine SL.W.dpure ?_ | refine SL.W.dload ?_ | refine SL.W.dloadA ?_ | refine SL.W.dfrz ?_ | (refine SL.W.dthaw ?_; simp only [List.append_nil, List.cons_append, List.nil_append]) | (refine SL.W.dguardP (fun h => ?_) (fun h => ?_) <;> (fail_if_success (have : h = trivial := rfl)) <;> (fail_if_success (have : h = not_false := rfl)) <;> first | contradiction | (exfalso; omega) | (exfalso; revert h; simp; done) | skip) | (refine SL.W.dguardB (fun h => ?_) (fun h => ?_) <;> (fail_if_success (have : h = (rfl : true = true) := rfl)) <;> (fail_if_success (have : h = (rfl : false = false) := rfl))) | refine SL.W.done ?_ | refine SL.W.dtwo ?_ ?_ | refine SL.W.dthree ?_ ?_ ?_))
    all_goals exact SL.TK.retD Try.func8 (SL.Res.one rfl (by rfl)) ⟨rfl, rfl⟩ (EntD.cons (by first | ((repeat (first | exact SL.Pick.head | apply SL.Pick.tail)); done) | fail) EntD.nil)
theorem back_in (W : World) (pa pb : Option Addr) (ca cb : Nat) (bs : List UInt8) (zs : List Int) (gz : Int) (hg : (Lit.int .u8 gz).wf = true) (hc1 : bs.length ≤ ca) (hm1 : ca ≤ 9223372036854775807) (hn1 : pa = none → bs = [])
    (hcell1 : ∀ q, pa = some q → ∀ j x, bs[j]? = some x → W.cell? (q.add j) = some (byteV x)) (hc2 : zs.length ≤ cb) (hm2 : cb ≤ 9223372036854775807) (hn2 : pb = none → zs = [])
    (hcell2 : ∀ q, pb = some q → ∀ j, j < zs.length → W.cell? (q.add j) = some (.int .u16 (zs.getD j 0))) (hwf : ∀ z ∈ zs, (Lit.int .u16 z).wf = true) :
    Spec Try.prog 8 [.slice pa bs.length ca, .slice pb zs.length cb, .int .u8 gz] [SL.orig W] (fun r L => r = .bool true ∧ L = [SL.orig W]) := by
  have hgz : 0 ≤ gz ∧ gz ≤ 255 := by
    simp [Lit.wf, IntKind.min, IntKind.max, IntKind.signed, IntKind.bits] at hg
    omega
  obtain ⟨g, rfl⟩ : ∃ g : Nat, gz = (g : Int) := ⟨gz.toNat, by omega⟩
  refine back_spec W _ _ g bs.length zs.length ca cb pa pb (fun i => (bs.getD i 0).toNat) (fun i => (zs.getD i 0).toNat) (pa.getD default) (pb.getD default) rfl rfl (by omega) (by omega) (by omega) ?_ ?_ ?_ ?_
  · intro h
    cases pa with
    | none => rw [hn1 rfl] at h; simp at h
    | some q => rfl
  · intro h
    cases pb with
    | none => rw [hn2 rfl] at h; simp at h
    | some q => rfl
  · intro i hi
    cases pa with
    | none => rw [hn1 rfl] at hi; simp at hi
    | some q =>
      have h1 : bs[i]? = some (bs.getD i 0) := by simp [List.getD_eq_getElem?_getD, List.getElem?_eq_getElem hi]
      have := (bs.getD i 0).toNat_lt
      refine ⟨by omega, ?_⟩
      show W.cell? (q.add (i * 1)) = _
      rw [Nat.mul_one, hcell1 q rfl i _ h1]; rfl
  · intro i hi
    cases pb with
    | none => rw [hn2 rfl] at hi; simp at hi
    | some q =>
      have h2 := wf_u16 (hwf (zs.getD i 0) (by rw [List.getD_eq_getElem?_getD, List.getElem?_eq_getElem hi]; simp))
      refine ⟨by omega, ?_⟩
      show W.cell? (q.add (i * 1)) = _
      rw [Nat.mul_one, hcell2 q rfl i hi]
      congr 2
      omega
end SL

namespace Go.Proofs.Ytpnlenpglmffdaa.leaseBack
open Go.ChangeShapes Go.WideShapes Go.ChangeAt Go.RowKit

theorem own : ownKnob Try.prog.godebug = none := by kernel_rfl
theorem laid : laidOutB Try.prog = true := by kernel_rfl

theorem contract (H : Type) (enc : TypeId × Value → H) (W : World) (base : Nat) (args : Array Value) (ds gs : List (DataW H)) (before : List MemPlace)
    (hval : ∀ (j : Nat) t v, Try.f8.params[j]? = some t → args[j]? = some v → Value.okWide Try.prog W .any base t v)
    (hW : DataW.Whole enc Try.prog Try.f8.params.toList Rows.leaseBackSpec.vars false W args.toList ds gs before) :
    Calls Try.prog 8 args W fun e W' => ∃ v, e = .returned v ∧ Rows.leaseBackSpec.post enc Try.prog Try.f8 false true false false W args v W' := by
  have hW' := hW
  obtain ⟨p, q, hA0, hV, rfl, hfz, hnd⟩ := hW
  have hA : DataW.TrodAll enc Try.prog W 0 (fun _ => true) true Try.f8.params.toList args.toList ds p := hA0
  rw [Try.params8] at hA hval
  obtain ⟨v0, vs0, d0, ds0, p0, q0, hargs, rfl, rfl, h0, r0⟩ := trodAll_cons hA
  obtain ⟨v1, vs1, d1, ds1, p1, q1, rfl, rfl, rfl, h1, r1⟩ := trodAll_cons r0
  obtain ⟨v2, vs2, d2, ds2, p2, q2, rfl, rfl, rfl, h2, r2⟩ := trodAll_cons r1
  obtain ⟨rfl, rfl, rfl⟩ := trodAll_nil r2
  obtain rfl : args = #[v0, v1, v2] := by cases args; simp_all
  obtain ⟨rfl, rfl⟩ := trodVars_none hV
  refine SL.law_calls (ds := [d0, d1, d2]) (gs := []) laid (by kernel_rfl) rfl rfl rfl (by kernel_rfl) hW' ?_
  obtain ⟨pa, ca, bs, rfl, hc1, hm1, hn1, hcell1⟩ := SL.bytes_in Try.underlying66 Try.underlying5 (by kernel_rfl) (hval 0 66 v0 rfl rfl) h0
  obtain ⟨pb, cb, zs, rfl, hc2, hm2, hn2, hcell2, hwf2⟩ := SL.ints_in Try.underlying73 Try.underlying74 (by kernel_rfl) (hval 1 73 v1 rfl rfl) h1
  obtain ⟨g, rfl, _, _, hg⟩ := open_int Try.underlying5 (hval 2 5 v2 rfl rfl) h2
  exact SL.back_in W pa pb ca cb bs zs g hg hc1 (Nat.le_trans hm1 (by decide +kernel)) hn1 hcell1 hc2 (Nat.le_trans hm2 (by decide +kernel)) hn2 hcell2 hwf2

set_option maxRecDepth 100000 in
theorem lifted (os : Os) (started : os.Started) (H : Type) (enc : TypeId × Value → H) :
    ReturnsInHanded {} Try.checked os 8 .any (Rows.leaseBackSpec.pre6 enc Try.prog Try.f8 [] false) (Rows.leaseBackSpec.post enc Try.prog Try.f8 false true false false) := by
  refine returnsInHanded_of_change own started (by kernel_rfl) Try.func8
    (ChangeSpec.witness6 false ⟨#[], #[.slice none 0 0, .slice none 0 0, .int .u8 0], []⟩ 8 (by kernel_rfl) (by kernel_rfl) (by kernel_rfl) (by kernel_rfl)) ?_
  intro W base args ds gs before hval hW _ _
  exact contract H enc W base args ds gs before hval hW

theorem proved : Rows.LeaseBackSaid :=
  OpenClaim.holds_of_wide 8 Try.f8 rfl rfl rfl rfl rfl rfl rfl ⟨rfl, rfl, rfl, rfl, rfl⟩ rfl rfl rfl rfl rfl (by kernel_rfl) Try.func8 (by kernel_rfl)
    (of_decide_eq_true (by kernel_rfl)) (by unfold Func.isWrapper; first | (rw [if_pos (by decide +kernel)]; kernel_rfl) | (rw [if_neg (by decide +kernel)]; exact ⟨rfl, rfl⟩))
    (fun os started H enc _ => lifted os started H enc)
end Go.Proofs.Ytpnlenpglmffdaa.leaseBack
