/-
  Chapter 29: NetKeeps: rounds, on.
-/
import Derived.Test.YtidogcbcknpdiaaNet14
set_option linter.unusedVariables false
set_option linter.unusedSimpArgs false
set_option maxRecDepth 10000
namespace SL
open Go Go.Proofs Go.RowKit
attribute [local irreducible] SL.TK SL.TO SL.TD SL.PV SL.Pick SL.Frm SL.Ent SL.Sub SL.EvAll SL.seps SL.sep SL.Cut SL.PutAt SL.blk SL.EvP SL.Fill SL.Src SL.EntD SL.own SL.ex SL.fact SL.orig

set_option maxHeartbeats 2000000 in
theorem round1i {post : Post} {k : List Item} (W : World) (q : Addr) (cap nb mb i : Nat) (As : List Act) (cs : List UInt8) (S : List (Int × Value)) (what kk bit : Int) (f : Fr) (s : Option Addr × Nat)
    (hlt : i < As.length) (hi99 : i < 100) (hcs : cs.length ≤ i) (h100 : ∀ c ∈ cs, c.toNat < 100) (hSH : Hid (CntOk S cs)) (hnd : Hid ((S.map (·.1)).Nodup))
    (hAc : ∀ j x, (actV ⟨what, kk, bit, f, s⟩)[j]? = some x → W.cell? ((q.add (i * 8)).add j) = some x)
    (ih : ∀ ρ' L' m', keepInv W (some q) cap nb mb As ρ' L' m' → m' < As.length - i → TK Try.prog 3 Try.f3.ntmps post (.inLoop B3 :: k) ρ' L')
    (kn : Nat) (c : UInt8) (hkk : kk = kn) (hw : what = 1) (hkc : cs[kn]? = some c) :
    TK Try.prog 3 Try.f3.ntmps post (.code B3 :: .inLoop B3 :: k) [(3, .pointer (some ⟨nb, 0, none⟩)), (4, .map (some mb)), (18, .slice (some q) As.length cap), (19, .int .i64 As.length), (20, .int .i64 i)]
      [orig W, NetAt nb (cs.map kf), mp (Value.int .u8) mb S] := by
  subst hkk
  subst hw
  have hk := (List.getElem?_eq_some_iff.1 hkc).1
  have hcm := h100 c (List.mem_of_getElem? hkc)
  obtain ⟨d, hd⟩ : ∃ d : UInt8, kf c = ⟨false, 0, false, 1, [c, d]⟩ := ⟨c + 1, rfl⟩
  have hall := allK nb cs (by omega)
  have hcall := takeK_in nb kn cs c hkc (by omega)
  have hyes : decide ((kn : Int) < (cs.length : Int)) = true := decide_eq_true (by omega)
  have hcb0 := cntI_le cs c.toNat
  have hlH := Lib.hid (List.length_eraseIdx_of_lt hk)
  have hll : (cs.eraseIdx kn).length ≤ 100 := by rw [hlH.out]; omega
  have hall2 := allK nb (cs.eraseIdx kn) (by omega)
  have h1p : ∀ c ∈ cs.eraseIdx kn, c.toNat < 100 := fun c hc => h100 c ((List.eraseIdx_sublist _ _).mem hc)
  have hSp := hSH.out.sub hkc
  have hndp := upd_keys (c.toNat : Int) (.int .i64 ((cntI cs c.toNat : Int) - 1)) S hnd.out
  have hvp := Lib.hid (val_of hSp hndp)
  have hPH := Lib.hid (And.intro hSp hndp)
  have hkH := Lib.hid hkc
  clear hSp hndp hkc
  rw [hd] at hcall
  have hl0 : cs.length ≤ 100 := by omega
  have hv0 := Lib.hid (val_of hSH.out hnd.out)
  repeat' (first | (refine SL.TO.is ?_; first | (refine SL.TO.door (o := ⟨_, .load _ _, _, _, _, _⟩) ?_; first | refine SL.W.loadOA hAc rfl ?_ | refine SL.W.loadN ‹nth _ (kn * 5 + 4) = _› ?_) | (refine SL.TO.door (o := ⟨_, .call ⟨.value (.func 8), _, _⟩, _, _, _, _⟩) ?_; first | (refine SL.W.call (hall) ?_; rintro _ _ ⟨al, cl, rfl, rfl⟩; try simp only [List.cons_append, List.nil_append]) | (refine SL.W.call (hall2) ?_; rintro _ _ ⟨al, cl, rfl, rfl⟩; try simp only [List.cons_append, List.nil_append])) | (refine SL.TO.door (o := ⟨_, .call ⟨.value (.func 11), _, _⟩, _, _, _, _⟩) ?_; first | (refine SL.W.call (hcall) ?_; rintro _ _ ⟨⟨sa1, sa2⟩, rfl, rfl⟩; try simp only [List.cons_append, List.nil_append])) | (refine SL.TO.door (o := ⟨_, .lookup _ _ _ _, _, _, _, _⟩) ?_; first | (refine SL.W.lookup ?_; refine SL.TO.slot (d := 102) (by rfl) (hSH.out _) ?_)) | (refine SL.TO.door (o := ⟨_, .call ⟨.value (.func 12), _, _⟩, _, _, _, _⟩) ?_; first | (refine SL.W.call (equal_X (sa1, sa2) _ _ [c, d] [c, d] true SL.Rd.blkX (by simp)) ?_; rintro _ _ ⟨rfl, rfl⟩; try simp only [List.cons_append, List.nil_append])) | refine SL.TO.nil ?_ | (refine SL.TO.nilD ?_; simp only [SL.setB]) | refine SL.W.pass ?_ | refine SL.W.pass0 ?_ | (refine SL.W.pure ?_; first | refine SL.W.pv ?_ | refine SL.W.pv0 ?_ | refine SL.W.lenMp ?_ | (refine SL.W.guardP (fun h => ?_) (fun h => ?_) <;> (fail_if_success (have : h = trivial := rfl)) <;> (fail_if_success (have : h = not_false := rfl)) <;> first | contradiction | (exfalso; omega) | (exfalso; revert h; simp; done) | skip) | (refine SL.W.guardB (fun h => ?_) (fun h => ?_) <;> (fail_if_success (have : h = (rfl : true = true) := rfl)) <;> (fail_if_success (have : h = (rfl : false = false) := rfl)))) | (refine SL.W.loud ?_; first | refine SL.W.load ?_ | refine SL.W.loadA ?_ | refine SL.W.store ?_ | refine SL.W.storeA ?_ | (refine SL.W.box ?_; intro b) | (refine SL.W.alloc ?_; intro b) | (refine SL.W.buildSlice ?_; intro b) | (refine SL.W.append ?_; intro a cap) | refine SL.W.bytesToStr ?_ | refine SL.W.pvn (SL.PV.toIntC (by rfl) (by first | exact SL.wrap_i64 (by omega) | exact SL.wrap_u8 (by omega) | exact SL.wrap_u32 (by omega) | exact SL.wrap_u64 (by omega) | rfl)) ?_ | (refine SL.W.makeSlice ?_; intro b) | refine SL.W.lookupOk ?_ | refine SL.W.lookup ?_ | (refine SL.W.makeMap ?_; intro b) | refine SL.W.mapUpdate ?_ | (refine SL.W.mapEntry ?_; intro stamp) | refine SL.W.entryStore ?_ | (refine SL.W.range ?_; intro it) | refine SL.W.delete ?_ | (refine SL.W.guardP (fun h => ?_) (fun h => ?_) <;> (fail_if_success (have : h = trivial := rfl)) <;> (fail_if_success (have : h = not_false := rfl)) <;> first | contradiction | (exfalso; omega) | (exfalso; revert h; simp; done) | skip) | (refine SL.W.guardB (fun h => ?_) (fun h => ?_) <;> (fail_if_success (have : h = (rfl : true = true) := rfl)) <;> (fail_if_success (have : h = (rfl : false = false) := rfl))))) | (refine SL.TK.lp ?_; first | refine SL.W.loop (keeps_recount _ _ _ (cs.eraseIdx kn) _ _ _ _ _ _ hll h1p (fun N hN => ?_)) | (refine SL.W.loop (keeps_check mb _ _ _ _ (cs.eraseIdx kn) _ _ _ _ _ _ hvp ‹CntOk _ (cs.eraseIdx kn)› ?_))) | (refine SL.TK.is ?_; first | refine SL.TK.slot (d := 8) (by rfl) (v' := .bool true) (congrArg Value.bool hyes) ?_ | (refine SL.TK.openThere (k := kn) (by rfl) (by first | ((repeat (first | exact SL.Pick.head | apply SL.Pick.tail)); done) | fail) hkH.out hd (fun b7 ts b8 c8 ex ea hts => ?_); subst ea) | refine SL.TK.seq ?_ | refine SL.TK.region ?_ | refine SL.TK.regionD SL.mixed (by simp only [SL.falses] <;> rfl) ?_ | refine SL.TK.block ?_ | refine SL.TK.inBlock ?_ | refine SL.TK.skip ?_ | refine SL.TK.scope ?_ | refine SL.TK.inScope ?_ | refine SL.TK.label ?_ | refine SL.W.exit ?_ | refine SL.W.condT ?_ | refine SL.W.condF ?_ | (refine SL.W.condP (fun h => ?_) (fun h => ?_) <;> (fail_if_success (have : h = trivial := rfl)) <;> (fail_if_success (have : h = not_false := rfl)) <;> first | contradiction | (exfalso; omega) | (exfalso; revert h; simp; done) | skip) | refine SL.W.condB (fun h => ?_) (fun h => ?_)) | (refine SL.TD.is ?_; first | refine SL.W.dloadN ‹nth _ (kn * 5 + 4) = _› ?_ | (refine SL.W.dfin ?_; simp only [List.append_nil, List.cons_append, List.nil_append]) | refine SL.W.dpass ?_ | refine SL.W.dpure ?_ | refine SL.W.dload ?_ | refine SL.W.dloadA ?_ | refine SL.W.dfrz ?_ | (refine SL.W.dthaw ?_; simp only [List.append_nil, List.cons_append, List.nil_append]) | (refine SL.W.dguardP (fun h => ?_) (fun h => ?_) <;> (fail_if_success (have : h = trivial := rfl)) <;> (fail_if_success (have : h = not_false := rfl)) <;> first | contradiction | (exfalso; omega) | (exfalso; revert h; simp; done) | skip) | (refine SL.W.dguardB (fun h => ?_) (fun h => ?_) <;> (fail_if_success (have : h = (rfl : true = true) := rfl)) <;> (fail_if_success (have : h = (rfl : false = false) := rfl))) | refine SL.W.done ?_ | refine SL.W.dtwo ?_ ?_ | refine SL.W.dthree ?_ ?_ ?_))

  all_goals
    refine SL.TK.againD ih ⟨i + 1, (cs.eraseIdx kn), _, by omega, by omega, by (rw [hlH.out]; omega), h1p, hPH.out.1, hPH.out.2, rfl, rfl, rfl⟩ (by first | ((repeat (first | exact SL.Sub.nil | refine SL.Sub.cons (by rfl) (by first | rfl | exact SL.int_eq (by omega)) ?_)); done) | fail) ?_ (by omega)
    exact EntD.cons (by first | ((repeat (first | exact SL.Pick.head | apply SL.Pick.tail)); done) | fail) (EntD.cons (by first | ((repeat (first | exact SL.Pick.head | apply SL.Pick.tail)); done) | fail) (EntD.cons (by first | ((repeat (first | exact SL.Pick.head | apply SL.Pick.tail)); done) | fail) EntD.nil))

set_option maxHeartbeats 2000000 in
theorem round2i {post : Post} {k : List Item} (W : World) (q : Addr) (cap nb mb i : Nat) (As : List Act) (cs : List UInt8) (S : List (Int × Value)) (what kk bit : Int) (f : Fr) (s : Option Addr × Nat)
    (hlt : i < As.length) (hi99 : i < 100) (hcs : cs.length ≤ i) (h100 : ∀ c ∈ cs, c.toNat < 100) (hSH : Hid (CntOk S cs)) (hnd : Hid ((S.map (·.1)).Nodup))
    (hAc : ∀ j x, (actV ⟨what, kk, bit, f, s⟩)[j]? = some x → W.cell? ((q.add (i * 8)).add j) = some x)
    (ih : ∀ ρ' L' m', keepInv W (some q) cap nb mb As ρ' L' m' → m' < As.length - i → TK Try.prog 3 Try.f3.ntmps post (.inLoop B3 :: k) ρ' L')
    (kn : Nat) (c : UInt8) (hkk : kk = kn) (hw : what = 2) (hkc : cs[kn]? = some c) :
    TK Try.prog 3 Try.f3.ntmps post (.code B3 :: .inLoop B3 :: k) [(3, .pointer (some ⟨nb, 0, none⟩)), (4, .map (some mb)), (18, .slice (some q) As.length cap), (19, .int .i64 As.length), (20, .int .i64 i)]
      [orig W, NetAt nb (cs.map kf), mp (Value.int .u8) mb S] := by
  subst hkk
  subst hw
  have hk := (List.getElem?_eq_some_iff.1 hkc).1
  have hcm := h100 c (List.mem_of_getElem? hkc)
  obtain ⟨d, hd⟩ : ∃ d : UInt8, kf c = ⟨false, 0, false, 1, [c, d]⟩ := ⟨c + 1, rfl⟩
  have hall := allK nb cs (by omega)
  have hcall := dropK_in nb kn cs hk (by omega)
  have hyes : decide ((kn : Int) < (cs.length : Int)) = true := decide_eq_true (by omega)
  have hcb0 := cntI_le cs c.toNat
  have hlH := Lib.hid (List.length_eraseIdx_of_lt hk)
  have hll : (cs.eraseIdx kn).length ≤ 100 := by rw [hlH.out]; omega
  have hall2 := allK nb (cs.eraseIdx kn) (by omega)
  have h1p : ∀ c ∈ cs.eraseIdx kn, c.toNat < 100 := fun c hc => h100 c ((List.eraseIdx_sublist _ _).mem hc)
  have hSp := hSH.out.sub hkc
  have hndp := upd_keys (c.toNat : Int) (.int .i64 ((cntI cs c.toNat : Int) - 1)) S hnd.out
  have hvp := Lib.hid (val_of hSp hndp)
  have hPH := Lib.hid (And.intro hSp hndp)
  have hkH := Lib.hid hkc
  clear hSp hndp hkc
  have hl0 : cs.length ≤ 100 := by omega
  have hv0 := Lib.hid (val_of hSH.out hnd.out)
  repeat' (first | (refine SL.TO.is ?_; first | (refine SL.TO.door (o := ⟨_, .load _ _, _, _, _, _⟩) ?_; first | refine SL.W.loadOA hAc rfl ?_ | refine SL.W.loadN ‹nth _ (kn * 5 + 4) = _› ?_) | (refine SL.TO.door (o := ⟨_, .call ⟨.value (.func 8), _, _⟩, _, _, _, _⟩) ?_; first | (refine SL.W.call (hall) ?_; rintro _ _ ⟨al, cl, rfl, rfl⟩; try simp only [List.cons_append, List.nil_append]) | (refine SL.W.call (hall2) ?_; rintro _ _ ⟨al, cl, rfl, rfl⟩; try simp only [List.cons_append, List.nil_append])) | (refine SL.TO.door (o := ⟨_, .call ⟨.value (.func 13), _, _⟩, _, _, _, _⟩) ?_; first | (refine SL.W.call (hcall) ?_; rintro _ _ ⟨rfl, rfl⟩; try simp only [List.cons_append, List.nil_append])) | (refine SL.TO.door (o := ⟨_, .lookup _ _ _ _, _, _, _, _⟩) ?_; first | (refine SL.W.lookup ?_; refine SL.TO.slot (d := 102) (by rfl) (hSH.out _) ?_)) | refine SL.TO.nil ?_ | (refine SL.TO.nilD ?_; simp only [SL.setB]) | refine SL.W.pass ?_ | refine SL.W.pass0 ?_ | (refine SL.W.pure ?_; first | refine SL.W.pv ?_ | refine SL.W.pv0 ?_ | refine SL.W.lenMp ?_ | (refine SL.W.guardP (fun h => ?_) (fun h => ?_) <;> (fail_if_success (have : h = trivial := rfl)) <;> (fail_if_success (have : h = not_false := rfl)) <;> first | contradiction | (exfalso; omega) | (exfalso; revert h; simp; done) | skip) | (refine SL.W.guardB (fun h => ?_) (fun h => ?_) <;> (fail_if_success (have : h = (rfl : true = true) := rfl)) <;> (fail_if_success (have : h = (rfl : false = false) := rfl)))) | (refine SL.W.loud ?_; first | refine SL.W.load ?_ | refine SL.W.loadA ?_ | refine SL.W.store ?_ | refine SL.W.storeA ?_ | (refine SL.W.box ?_; intro b) | (refine SL.W.alloc ?_; intro b) | (refine SL.W.buildSlice ?_; intro b) | (refine SL.W.append ?_; intro a cap) | refine SL.W.bytesToStr ?_ | refine SL.W.pvn (SL.PV.toIntC (by rfl) (by first | exact SL.wrap_i64 (by omega) | exact SL.wrap_u8 (by omega) | exact SL.wrap_u32 (by omega) | exact SL.wrap_u64 (by omega) | rfl)) ?_ | (refine SL.W.makeSlice ?_; intro b) | refine SL.W.lookupOk ?_ | refine SL.W.lookup ?_ | (refine SL.W.makeMap ?_; intro b) | refine SL.W.mapUpdate ?_ | (refine SL.W.mapEntry ?_; intro stamp) | refine SL.W.entryStore ?_ | (refine SL.W.range ?_; intro it) | refine SL.W.delete ?_ | (refine SL.W.guardP (fun h => ?_) (fun h => ?_) <;> (fail_if_success (have : h = trivial := rfl)) <;> (fail_if_success (have : h = not_false := rfl)) <;> first | contradiction | (exfalso; omega) | (exfalso; revert h; simp; done) | skip) | (refine SL.W.guardB (fun h => ?_) (fun h => ?_) <;> (fail_if_success (have : h = (rfl : true = true) := rfl)) <;> (fail_if_success (have : h = (rfl : false = false) := rfl))))) | (refine SL.TK.lp ?_; first | refine SL.W.loop (keeps_recount _ _ _ (cs.eraseIdx kn) _ _ _ _ _ _ hll h1p (fun N hN => ?_)) | (refine SL.W.loop (keeps_check mb _ _ _ _ (cs.eraseIdx kn) _ _ _ _ _ _ hvp ‹CntOk _ (cs.eraseIdx kn)› ?_))) | (refine SL.TK.is ?_; first | refine SL.TK.slot (d := 8) (by rfl) (v' := .bool true) (congrArg Value.bool hyes) ?_ | (refine SL.TK.openThere (k := kn) (by rfl) (by first | ((repeat (first | exact SL.Pick.head | apply SL.Pick.tail)); done) | fail) hkH.out hd (fun b7 ts b8 c8 ex ea hts => ?_); subst ea) | refine SL.TK.seq ?_ | refine SL.TK.region ?_ | refine SL.TK.regionD SL.mixed (by simp only [SL.falses] <;> rfl) ?_ | refine SL.TK.block ?_ | refine SL.TK.inBlock ?_ | refine SL.TK.skip ?_ | refine SL.TK.scope ?_ | refine SL.TK.inScope ?_ | refine SL.TK.label ?_ | refine SL.W.exit ?_ | refine SL.W.condT ?_ | refine SL.W.condF ?_ | (refine SL.W.condP (fun h => ?_) (fun h => ?_) <;> (fail_if_success (have : h = trivial := rfl)) <;> (fail_if_success (have : h = not_false := rfl)) <;> first | contradiction | (exfalso; omega) | (exfalso; revert h; simp; done) | skip) | refine SL.W.condB (fun h => ?_) (fun h => ?_)) | (refine SL.TD.is ?_; first | (refine SL.W.dfin ?_; simp only [List.append_nil, List.cons_append, List.nil_append]) | refine SL.W.dpass ?_ | refine SL.W.dpure ?_ | refine SL.W.dload ?_ | refine SL.W.dloadA ?_ | refine SL.W.dfrz ?_ | (refine SL.W.dthaw ?_; simp only [List.append_nil, List.cons_append, List.nil_append]) | (refine SL.W.dguardP (fun h => ?_) (fun h => ?_) <;> (fail_if_success (have : h = trivial := rfl)) <;> (fail_if_success (have : h = not_false := rfl)) <;> first | contradiction | (exfalso; omega) | (exfalso; revert h; simp; done) | skip) | (refine SL.W.dguardB (fun h => ?_) (fun h => ?_) <;> (fail_if_success (have : h = (rfl : true = true) := rfl)) <;> (fail_if_success (have : h = (rfl : false = false) := rfl))) | refine SL.W.done ?_ | refine SL.W.dtwo ?_ ?_ | refine SL.W.dthree ?_ ?_ ?_))

  all_goals
    refine SL.TK.againD ih ⟨i + 1, (cs.eraseIdx kn), _, by omega, by omega, by (rw [hlH.out]; omega), h1p, hPH.out.1, hPH.out.2, rfl, rfl, rfl⟩ (by first | ((repeat (first | exact SL.Sub.nil | refine SL.Sub.cons (by rfl) (by first | rfl | exact SL.int_eq (by omega)) ?_)); done) | fail) ?_ (by omega)
    exact EntD.cons (by first | ((repeat (first | exact SL.Pick.head | apply SL.Pick.tail)); done) | fail) (EntD.cons (by first | ((repeat (first | exact SL.Pick.head | apply SL.Pick.tail)); done) | fail) (EntD.cons (by first | ((repeat (first | exact SL.Pick.head | apply SL.Pick.tail)); done) | fail) EntD.nil))

set_option maxHeartbeats 2000000 in
theorem round3i {post : Post} {k : List Item} (W : World) (q : Addr) (cap nb mb i : Nat) (As : List Act) (cs : List UInt8) (S : List (Int × Value)) (what kk bit : Int) (f : Fr) (s : Option Addr × Nat)
    (hlt : i < As.length) (hi99 : i < 100) (hcs : cs.length ≤ i) (h100 : ∀ c ∈ cs, c.toNat < 100) (hSH : Hid (CntOk S cs)) (hnd : Hid ((S.map (·.1)).Nodup))
    (hAc : ∀ j x, (actV ⟨what, kk, bit, f, s⟩)[j]? = some x → W.cell? ((q.add (i * 8)).add j) = some x)
    (ih : ∀ ρ' L' m', keepInv W (some q) cap nb mb As ρ' L' m' → m' < As.length - i → TK Try.prog 3 Try.f3.ntmps post (.inLoop B3 :: k) ρ' L')
    (kn : Nat) (c : UInt8) (hkk : kk = kn) (hw : what = 3) (hkc : cs[kn]? = some c) :
    TK Try.prog 3 Try.f3.ntmps post (.code B3 :: .inLoop B3 :: k) [(3, .pointer (some ⟨nb, 0, none⟩)), (4, .map (some mb)), (18, .slice (some q) As.length cap), (19, .int .i64 As.length), (20, .int .i64 i)]
      [orig W, NetAt nb (cs.map kf), mp (Value.int .u8) mb S] := by
  subst hkk
  subst hw
  have hk := (List.getElem?_eq_some_iff.1 hkc).1
  have hcm := h100 c (List.mem_of_getElem? hkc)
  obtain ⟨d, hd⟩ : ∃ d : UInt8, kf c = ⟨false, 0, false, 1, [c, d]⟩ := ⟨c + 1, rfl⟩
  have hall := allK nb cs (by omega)
  have hcall := doubleK_in nb kn cs c hkc (by omega)
  have hyes : decide ((kn : Int) < (cs.length : Int)) = true := decide_eq_true (by omega)
  have hcb0 := cntI_le cs c.toNat
  have hlH := Lib.hid (show (cs ++ [c]).length = cs.length + 1 by simp)
  have hll : (cs ++ [c]).length ≤ 100 := by rw [hlH.out]; omega
  have hall2 := allK nb (cs ++ [c]) (by omega)
  have h1p : ∀ c' ∈ cs ++ [c], c'.toNat < 100 := by
    intro c' hc
    rcases List.mem_append.1 hc with hc | hc
    · exact h100 c' hc
    · simp at hc; subst hc; exact hcm
  have hSp := hSH.out.add c
  have hndp := upd_keys (c.toNat : Int) (.int .i64 ((cntI cs c.toNat : Int) + 1)) S hnd.out
  have hvp := Lib.hid (val_of hSp hndp)
  have hPH := Lib.hid (And.intro hSp hndp)
  have hkH := Lib.hid hkc
  clear hSp hndp hkc
  have hl0 : cs.length ≤ 100 := by omega
  have hv0 := Lib.hid (val_of hSH.out hnd.out)
  repeat' (first | (refine SL.TO.is ?_; first | (refine SL.TO.door (o := ⟨_, .load _ _, _, _, _, _⟩) ?_; first | refine SL.W.loadOA hAc rfl ?_ | refine SL.W.loadN ‹nth _ (kn * 5 + 4) = _› ?_) | (refine SL.TO.door (o := ⟨_, .call ⟨.value (.func 8), _, _⟩, _, _, _, _⟩) ?_; first | (refine SL.W.call (hall) ?_; rintro _ _ ⟨al, cl, rfl, rfl⟩; try simp only [List.cons_append, List.nil_append]) | (refine SL.W.call (hall2) ?_; rintro _ _ ⟨al, cl, rfl, rfl⟩; try simp only [List.cons_append, List.nil_append])) | (refine SL.TO.door (o := ⟨_, .call ⟨.value (.func 14), _, _⟩, _, _, _, _⟩) ?_; first | (refine SL.W.call (hcall) ?_; rintro _ _ ⟨rfl, rfl⟩; try simp only [List.cons_append, List.nil_append])) | (refine SL.TO.door (o := ⟨_, .lookup _ _ _ _, _, _, _, _⟩) ?_; first | (refine SL.W.lookup ?_; refine SL.TO.slot (d := 123) (by rfl) (hSH.out _) ?_)) | refine SL.TO.nil ?_ | (refine SL.TO.nilD ?_; simp only [SL.setB]) | refine SL.W.pass ?_ | refine SL.W.pass0 ?_ | (refine SL.W.pure ?_; first | refine SL.W.pv ?_ | refine SL.W.pv0 ?_ | refine SL.W.lenMp ?_ | (refine SL.W.guardP (fun h => ?_) (fun h => ?_) <;> (fail_if_success (have : h = trivial := rfl)) <;> (fail_if_success (have : h = not_false := rfl)) <;> first | contradiction | (exfalso; omega) | (exfalso; revert h; simp; done) | skip) | (refine SL.W.guardB (fun h => ?_) (fun h => ?_) <;> (fail_if_success (have : h = (rfl : true = true) := rfl)) <;> (fail_if_success (have : h = (rfl : false = false) := rfl)))) | (refine SL.W.loud ?_; first | refine SL.W.load ?_ | refine SL.W.loadA ?_ | refine SL.W.store ?_ | refine SL.W.storeA ?_ | (refine SL.W.box ?_; intro b) | (refine SL.W.alloc ?_; intro b) | (refine SL.W.buildSlice ?_; intro b) | (refine SL.W.append ?_; intro a cap) | refine SL.W.bytesToStr ?_ | refine SL.W.pvn (SL.PV.toIntC (by rfl) (by first | exact SL.wrap_i64 (by omega) | exact SL.wrap_u8 (by omega) | exact SL.wrap_u32 (by omega) | exact SL.wrap_u64 (by omega) | rfl)) ?_ | (refine SL.W.makeSlice ?_; intro b) | refine SL.W.lookupOk ?_ | refine SL.W.lookup ?_ | (refine SL.W.makeMap ?_; intro b) | refine SL.W.mapUpdate ?_ | (refine SL.W.mapEntry ?_; intro stamp) | refine SL.W.entryStore ?_ | (refine SL.W.range ?_; intro it) | refine SL.W.delete ?_ | (refine SL.W.guardP (fun h => ?_) (fun h => ?_) <;> (fail_if_success (have : h = trivial := rfl)) <;> (fail_if_success (have : h = not_false := rfl)) <;> first | contradiction | (exfalso; omega) | (exfalso; revert h; simp; done) | skip) | (refine SL.W.guardB (fun h => ?_) (fun h => ?_) <;> (fail_if_success (have : h = (rfl : true = true) := rfl)) <;> (fail_if_success (have : h = (rfl : false = false) := rfl))))) | (refine SL.TK.lp ?_; first | refine SL.W.loop (keeps_recount _ _ _ (cs ++ [c]) _ _ _ _ _ _ hll h1p (fun N hN => ?_)) | (refine SL.W.loop (keeps_check mb _ _ _ _ (cs ++ [c]) _ _ _ _ _ _ hvp ‹CntOk _ (cs ++ [c])› ?_))) | (refine SL.TK.is ?_; first | refine SL.TK.slot (d := 8) (by rfl) (v' := .bool true) (congrArg Value.bool hyes) ?_ | (refine SL.TK.openThere (k := kn) (by rfl) (by first | ((repeat (first | exact SL.Pick.head | apply SL.Pick.tail)); done) | fail) hkH.out hd (fun b7 ts b8 c8 ex ea hts => ?_); subst ea) | refine SL.TK.seq ?_ | refine SL.TK.region ?_ | refine SL.TK.regionD SL.mixed (by simp only [SL.falses] <;> rfl) ?_ | refine SL.TK.block ?_ | refine SL.TK.inBlock ?_ | refine SL.TK.skip ?_ | refine SL.TK.scope ?_ | refine SL.TK.inScope ?_ | refine SL.TK.label ?_ | refine SL.W.exit ?_ | refine SL.W.condT ?_ | refine SL.W.condF ?_ | (refine SL.W.condP (fun h => ?_) (fun h => ?_) <;> (fail_if_success (have : h = trivial := rfl)) <;> (fail_if_success (have : h = not_false := rfl)) <;> first | contradiction | (exfalso; omega) | (exfalso; revert h; simp; done) | skip) | refine SL.W.condB (fun h => ?_) (fun h => ?_)) | (refine SL.TD.is ?_; first | (refine SL.W.dfin ?_; simp only [List.append_nil, List.cons_append, List.nil_append]) | refine SL.W.dpass ?_ | refine SL.W.dpure ?_ | refine SL.W.dload ?_ | refine SL.W.dloadA ?_ | refine SL.W.dfrz ?_ | (refine SL.W.dthaw ?_; simp only [List.append_nil, List.cons_append, List.nil_append]) | (refine SL.W.dguardP (fun h => ?_) (fun h => ?_) <;> (fail_if_success (have : h = trivial := rfl)) <;> (fail_if_success (have : h = not_false := rfl)) <;> first | contradiction | (exfalso; omega) | (exfalso; revert h; simp; done) | skip) | (refine SL.W.dguardB (fun h => ?_) (fun h => ?_) <;> (fail_if_success (have : h = (rfl : true = true) := rfl)) <;> (fail_if_success (have : h = (rfl : false = false) := rfl))) | refine SL.W.done ?_ | refine SL.W.dtwo ?_ ?_ | refine SL.W.dthree ?_ ?_ ?_))

  all_goals
    refine SL.TK.againD ih ⟨i + 1, (cs ++ [c]), _, by omega, by omega, by (rw [hlH.out]; omega), h1p, hPH.out.1, hPH.out.2, rfl, rfl, rfl⟩ (by first | ((repeat (first | exact SL.Sub.nil | refine SL.Sub.cons (by rfl) (by first | rfl | exact SL.int_eq (by omega)) ?_)); done) | fail) ?_ (by omega)
    exact EntD.cons (by first | ((repeat (first | exact SL.Pick.head | apply SL.Pick.tail)); done) | fail) (EntD.cons (by first | ((repeat (first | exact SL.Pick.head | apply SL.Pick.tail)); done) | fail) (EntD.cons (by first | ((repeat (first | exact SL.Pick.head | apply SL.Pick.tail)); done) | fail) EntD.nil))
end SL
