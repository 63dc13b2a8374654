/-
  Chapter 29: the document's examples hold.
-/
import Derived.Test.YtidogcbcknpdiaaNet7
set_option linter.unusedVariables false
set_option linter.unusedSimpArgs false
set_option maxRecDepth 10000
namespace SL
open Go Go.Proofs

theorem Rd.blk {b T cap : Nat} {bs : List UInt8} {cs : List Value} (h : cs = bs.map byteV) : Rd (SL.blk b T cs) (some ⟨b, 0, none⟩) cap bs := by
  subst h
  refine ⟨fun h => by simp at h, fun P L r k => Src.blk k ?_⟩
  exact ⟨by simp, fun j v hj => by simpa using hj⟩
theorem put_ok (nb : Nat) (l : List Fr) (f : Fr) (s : Option Addr × Nat) (h : putN l.length f = 0) :
    Spec Try.prog 9 [.pointer (some ⟨nb, 0, none⟩), .agg (frV f s).toArray] [NetAt nb l, byt s f.bs]
    (fun r L => r = .int .i64 0 ∧ L = [NetAt nb (l ++ [f]), byt s f.bs]) := by
  have := put_spec nb l f s
  rw [show putL l f = l ++ [f] from if_pos h, h] at this
  exact this

theorem equal_same (s1 s2 : Option Addr × Nat) (b : List UInt8) : Spec Try.prog 12 [.slice s1.1 b.length s1.2, .slice s2.1 b.length s2.2] [byt s1 b, byt s2 b]
    (fun r L => r = .bool true ∧ L = [byt s1 b, byt s2 b]) := by
  have := equal_spec s1 s2 b b
  simpa using this

section
variable {P : Program} {fid n : Nat} {post : Post} {k : List Item} {ρ : Env} {L L' r : List HProp}
/-- two frames that were told -/
theorem TK.openFr2 {a : Option Addr} {cap : Nat} {f g : Fr} (hp : Pick L (FrSl a cap [f, g]) r)
    (h : ∀ b extra s1 s2, a = some ⟨b, 0, none⟩ → TK P fid n post k ρ (SL.blk b 31 (frV f s1 ++ (frV g s2 ++ extra)) :: byt s1 f.bs :: byt s2 g.bs :: r)) : TK P fid n post k ρ L := by
  refine TK.openFr hp fun fs hfs => ?_
  obtain ⟨⟨f', s1⟩, ⟨g', s2⟩, rfl⟩ : ∃ x y : Fr × (Option Addr × Nat), fs = [x, y] := by
    match fs, hfs with
    | [x, y], _ => exact ⟨x, y, rfl⟩
  simp only [List.map_cons, List.map_nil, List.cons.injEq, and_true] at hfs
  obtain ⟨rfl, rfl⟩ := hfs
  refine TK.ownPos (e := 31) Pick.head (by simp) fun b extra ea e1 e2 e3 => ?_
  refine TK.sepsC (m := framesP [(f', s1), (g', s2)]) (Pick.tail Pick.head) ?_
  have := h b extra s1 s2 ea
  refine TK.entD (L' := _) ?_ this
  refine EntD.cons (p := SL.blk b 31 (frV f' s1 ++ (frV g' s2 ++ extra))) (r := byt s1 f'.bs :: byt s2 g'.bs :: r) ?_ EntD.refl
  have e : cellsP [(f', s1), (g', s2)] ++ extra = frV f' s1 ++ (frV g' s2 ++ extra) := by simp [cellsP]
  rw [e]
  exact Pick.tail (Pick.tail Pick.head)
end
attribute [local irreducible] SL.TK SL.TO SL.TD SL.PV SL.Pick SL.Frm SL.Ent SL.Sub SL.EvAll SL.seps SL.sep SL.Cut SL.PutAt SL.blk SL.EvP SL.Fill SL.Src SL.EntD SL.own SL.ex SL.fact SL.orig

def F00 : Fr := ⟨false, 0, false, 1, [0, 0]⟩
def F02 : Fr := ⟨false, 0, false, 1, [0, 2]⟩
def F7 : Fr := ⟨false, 0, false, 1, [7]⟩

set_option maxHeartbeats 800000 in
theorem awake_spec : Spec Try.prog 15 [] [] (fun r L => r = .bool true ∧ L = []) := by
  have hd (nb : Nat) : Spec Try.prog 14 [.pointer (some ⟨nb, 0, none⟩), .int .i64 0] [NetAt nb [F00, F7]] (fun r L => r = .int .i64 0 ∧ L = [NetAt nb [F00, F7, F00]]) := double_spec nb 0 _
  have ht (nb : Nat) : Spec Try.prog 11 [.pointer (some ⟨nb, 0, none⟩), .int .i64 0] [NetAt nb [F00, F7, F00]] (fun r L => ∃ s, r = .tuple #[.agg (frV F00 s).toArray, .int .i64 0] ∧ L = [NetAt nb [F7, F00], byt s F00.bs]) := take_in nb 0 _ F00 rfl (by decide)
  have ha (nb : Nat) : Spec Try.prog 8 [.pointer (some ⟨nb, 0, none⟩)] [NetAt nb [F7, F00]] (fun r L => ∃ a cap, r = .slice a 2 cap ∧ L = [NetAt nb [F7, F00], FrSl a cap [F7, F00]]) := all_spec nb _ (by decide) (by simp [F7, F00])
  have hf (nb : Nat) : Spec Try.prog 16 [.pointer (some ⟨nb, 0, none⟩), .int .i64 1, .int .i64 9] [NetAt nb [F7, F00]] (fun r L => r = .int .i64 0 ∧ L = [NetAt nb [F7, F02]]) := flip_spec nb 1 9 _ (by simp [F7, F00]) (by decide)
  have ha2 (nb : Nat) : Spec Try.prog 8 [.pointer (some ⟨nb, 0, none⟩)] [NetAt nb [F7, F02]] (fun r L => ∃ a cap, r = .slice a 2 cap ∧ L = [NetAt nb [F7, F02], FrSl a cap [F7, F02]]) := all_spec nb _ (by decide) (by simp [F7, F02])
  have hdr (nb : Nat) : Spec Try.prog 13 [.pointer (some ⟨nb, 0, none⟩), .int .i64 5] [NetAt nb [F7, F02]] (fun r L => r = .int .i64 6 ∧ L = [NetAt nb [F7, F02]]) := drop_spec nb 5 _ (by decide)
  refine SL.Spec.of_TK Go.Proofs.Try.func15 rfl rfl SL.call15 rfl ?_
  repeat' (first | (refine SL.TO.is ?_; first | (refine SL.TO.door (o := ⟨_, .call ⟨.value (.func 7), _, _⟩, _, _, _, _⟩) ?_; first | (refine SL.W.call (new_spec) ?_; rintro _ _ ⟨nb, rfl, rfl⟩; try simp only [List.cons_append, List.nil_append])) | (refine SL.TO.door (o := ⟨_, .call ⟨.value (.func 10), _, _⟩, _, _, _, _⟩) ?_; first | (refine SL.W.call (frame_spec _ _ _) ?_; rintro _ _ ⟨rfl, rfl⟩; try simp only [List.cons_append, List.nil_append])) | (refine SL.TO.door (o := ⟨_, .call ⟨.value (.func 9), _, _⟩, _, _, _, _⟩) ?_; first | (refine SL.W.call (put_ok nb [] F00 (some ⟨_, 0, none⟩, 2) rfl) ?_; rintro _ _ ⟨rfl, rfl⟩; try simp only [List.cons_append, List.nil_append]) | (refine SL.W.call (put_ok nb [F00] F7 (some ⟨_, 0, none⟩, 1) rfl) ?_; rintro _ _ ⟨rfl, rfl⟩; try simp only [List.cons_append, List.nil_append])) | (refine SL.TO.door (o := ⟨_, .call ⟨.value (.func 14), _, _⟩, _, _, _, _⟩) ?_; first | (refine SL.W.call (hd _) ?_; rintro _ _ ⟨rfl, rfl⟩; try simp only [List.cons_append, List.nil_append])) | (refine SL.TO.door (o := ⟨_, .call ⟨.value (.func 11), _, _⟩, _, _, _, _⟩) ?_; first | (refine SL.W.call (ht _) ?_; rintro _ _ ⟨⟨at1, cp1⟩, rfl, rfl⟩; try simp only [List.cons_append, List.nil_append])) | (refine SL.TO.door (o := ⟨_, .call ⟨.value (.func 8), _, _⟩, _, _, _, _⟩) ?_; first | (refine SL.W.call (ha _) ?_; rintro _ _ ⟨al1, cl1, rfl, rfl⟩; try simp only [List.cons_append, List.nil_append]) | (refine SL.W.call (ha2 _) ?_; rintro _ _ ⟨al1, cl1, rfl, rfl⟩; try simp only [List.cons_append, List.nil_append])) | (refine SL.TO.door (o := ⟨_, .call ⟨.value (.func 16), _, _⟩, _, _, _, _⟩) ?_; first | (refine SL.W.call (hf _) ?_; rintro _ _ ⟨rfl, rfl⟩; try simp only [List.cons_append, List.nil_append])) | (refine SL.TO.door (o := ⟨_, .call ⟨.value (.func 13), _, _⟩, _, _, _, _⟩) ?_; first | (refine SL.W.call (hdr _) ?_; rintro _ _ ⟨rfl, rfl⟩; try simp only [List.cons_append, List.nil_append])) | (refine SL.TO.door (o := ⟨_, .call ⟨.value (.func 12), _, _⟩, _, _, _, _⟩) ?_; first | (refine SL.W.call (equal_same (_, _) (_, _) [0, 0]) ?_; rintro _ _ ⟨rfl, rfl⟩; try simp only [List.cons_append, List.nil_append]) | (refine SL.W.call (equal_same (_, _) (_, _) [7]) ?_; rintro _ _ ⟨rfl, rfl⟩; try simp only [List.cons_append, List.nil_append]) | (refine SL.W.call (equal_same (_, _) (_, _) [0, 2]) ?_; rintro _ _ ⟨rfl, rfl⟩; try simp only [List.cons_append, List.nil_append])) | refine SL.TO.nil ?_ | (refine SL.TO.nilD ?_; simp only [SL.setB]) | refine SL.W.pass ?_ | refine SL.W.pass0 ?_ | (refine SL.W.pure ?_; first | refine SL.W.pv ?_ | refine SL.W.pv0 ?_ | refine SL.W.lenMp ?_ | (refine SL.W.guardP (fun h => ?_) (fun h => ?_) <;> (fail_if_success (have : h = trivial := rfl)) <;> (fail_if_success (have : h = not_false := rfl)) <;> first | contradiction | (exfalso; omega) | (exfalso; revert h; simp; done) | skip) | (refine SL.W.guardB (fun h => ?_) (fun h => ?_) <;> (fail_if_success (have : h = (rfl : true = true) := rfl)) <;> (fail_if_success (have : h = (rfl : false = false) := rfl)))) | (refine SL.W.loud ?_; first | refine SL.W.load ?_ | refine SL.W.loadA ?_ | refine SL.W.store ?_ | refine SL.W.storeA ?_ | (refine SL.W.box ?_; intro b) | (refine SL.W.alloc ?_; intro b) | (refine SL.W.buildSlice ?_; intro b) | (refine SL.W.append ?_; intro a cap) | refine SL.W.bytesToStr ?_ | refine SL.W.pvn (SL.PV.toIntC (by rfl) (by first | exact SL.wrap_i64 (by omega) | exact SL.wrap_u8 (by omega) | exact SL.wrap_u32 (by omega) | exact SL.wrap_u64 (by omega) | rfl)) ?_ | (refine SL.W.makeSlice ?_; intro b) | refine SL.W.lookupOk ?_ | refine SL.W.lookup ?_ | (refine SL.W.makeMap ?_; intro b) | refine SL.W.mapUpdate ?_ | (refine SL.W.mapEntry ?_; intro stamp) | refine SL.W.entryStore ?_ | (refine SL.W.range ?_; intro it) | refine SL.W.delete ?_ | (refine SL.W.guardP (fun h => ?_) (fun h => ?_) <;> (fail_if_success (have : h = trivial := rfl)) <;> (fail_if_success (have : h = not_false := rfl)) <;> first | contradiction | (exfalso; omega) | (exfalso; revert h; simp; done) | skip) | (refine SL.W.guardB (fun h => ?_) (fun h => ?_) <;> (fail_if_success (have : h = (rfl : true = true) := rfl)) <;> (fail_if_success (have : h = (rfl : false = false) := rfl))))) | (refine SL.TK.is ?_; first | (refine SL.TK.openFr2 (by first | ((repeat (first | exact SL.Pick.head | apply SL.Pick.tail)); done) | fail) (fun bl exl sa sb ea => ?_); subst ea) | refine SL.TK.seq ?_ | refine SL.TK.region ?_ | refine SL.TK.regionD SL.mixed (by simp only [SL.falses] <;> rfl) ?_ | refine SL.TK.block ?_ | refine SL.TK.inBlock ?_ | refine SL.TK.skip ?_ | refine SL.TK.scope ?_ | refine SL.TK.inScope ?_ | refine SL.TK.label ?_ | refine SL.W.exit ?_ | refine SL.W.condT ?_ | refine SL.W.condF ?_ | (refine SL.W.condP (fun h => ?_) (fun h => ?_) <;> (fail_if_success (have : h = trivial := rfl)) <;> (fail_if_success (have : h = not_false := rfl)) <;> first | contradiction | (exfalso; omega) | (exfalso; revert h; simp; done) | skip) | refine SL.W.condB (fun h => ?_) (fun h => ?_)) | (refine SL.TD.is ?_; first | (refine SL.W.dfin ?_; simp only [List.append_nil, List.cons_append, List.nil_append]) | refine SL.W.dpass ?_ | refine SL.W.dpure ?_ | refine SL.W.dload ?_ | refine SL.W.dloadA ?_ | refine SL.W.dfrz ?_ | (refine SL.W.dthaw ?_; simp only [List.append_nil, List.cons_append, List.nil_append]) | (refine SL.W.dguardP (fun h => ?_) (fun h => ?_) <;> (fail_if_success (have : h = trivial := rfl)) <;> (fail_if_success (have : h = not_false := rfl)) <;> first | contradiction | (exfalso; omega) | (exfalso; revert h; simp; done) | skip) | (refine SL.W.dguardB (fun h => ?_) (fun h => ?_) <;> (fail_if_success (have : h = (rfl : true = true) := rfl)) <;> (fail_if_success (have : h = (rfl : false = false) := rfl))) | refine SL.W.done ?_ | refine SL.W.dtwo ?_ ?_ | refine SL.W.dthree ?_ ?_ ?_))
  exact SL.TK.retD Try.func15 (SL.Res.one rfl (by rfl)) ⟨rfl, rfl⟩ EntD.nil
end SL
