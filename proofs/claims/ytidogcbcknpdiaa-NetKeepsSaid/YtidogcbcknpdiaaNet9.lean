/-
  Chapter 29: NetFlips: bits that are turned.
-/
import Derived.Test.YtidogcbcknpdiaaNet8
set_option linter.unusedVariables false
set_option linter.unusedSimpArgs false
set_option maxRecDepth 10000
namespace SL
open Go Go.Proofs Go.RowKit

theorem put_okG {X : HProp} (nb : Nat) (l : List Fr) (f : Fr) (s : Option Addr × Nat) (hX : Rd X s.1 s.2 f.bs) (h : putN l.length f = 0) :
    Spec Try.prog 9 [.pointer (some ⟨nb, 0, none⟩), .agg (frV f s).toArray] [NetAt nb l, X]
    (fun r L => r = .int .i64 0 ∧ L = [NetAt nb (l ++ [f]), X]) := by
  have := put_specG nb l f s hX
  rw [show putL l f = l ++ [f] from if_pos h, h] at this
  exact this
theorem equal_X {X : HProp} (s1 : Option Addr × Nat) (a2 : Option Addr) (cap2 : Nat) (b1 b2 : List UInt8) (t : Bool) (hX : Rd X a2 cap2 b2) (h : decide (b1 = b2) = t) :
    Spec Try.prog 12 [.slice s1.1 b1.length s1.2, .slice a2 b2.length cap2] [byt s1 b1, X] (fun r L => r = .bool t ∧ L = [byt s1 b1, X]) := by
  have := equal_gen s1 a2 cap2 b1 b2 hX
  rw [h] at this
  exact this
section
variable {P : Program} {fid n : Nat} {post : Post} {k : List Item} {ρ : Env} {L L' r : List HProp} {ops l : List Oper} {sf : Option (List Bool × List HProp)}
theorem TO.openFr2 {a : Option Addr} {cap : Nat} {f g : Fr} (hp : Pick L (FrSl a cap [f, g]) r)
    (h : ∀ b extra s1 s2, a = some ⟨b, 0, none⟩ → TO P fid n post ops l sf k ρ (SL.blk b 31 (frV f s1 ++ (frV g s2 ++ extra)) :: byt s1 f.bs :: byt s2 g.bs :: r)) : TO P fid n post ops l sf k ρ L := by
  unfold FrSl at hp
  refine TO.exC hp fun fs => TO.sepsC Pick.head (TO.fact Pick.head fun hfs => ?_)
  obtain ⟨⟨f', s1⟩, ⟨g', s2⟩, rfl⟩ : ∃ x y : Fr × (Option Addr × Nat), fs = [x, y] := by
    match fs, hfs with
    | [x, y], _ => exact ⟨x, y, rfl⟩
  simp only [List.map_cons, List.map_nil, List.cons.injEq, and_true] at hfs
  obtain ⟨rfl, rfl⟩ := hfs
  refine TO.ownPos (e := 31) Pick.head (by simp) fun b extra ea e1 e2 e3 => ?_
  refine TO.sepsC (m := framesP [(f', s1), (g', s2)]) (Pick.tail Pick.head) ?_
  have := h b extra s1 s2 ea
  refine TO.entD (L' := _) ?_ this
  refine EntD.cons (p := SL.blk b 31 (frV f' s1 ++ (frV g' s2 ++ extra))) (r := byt s1 f'.bs :: byt s2 g'.bs :: r) ?_ EntD.refl
  have e : cellsP [(f', s1), (g', s2)] ++ extra = frV f' s1 ++ (frV g' s2 ++ extra) := by simp [cellsP]
  rw [e]
  exact Pick.tail (Pick.tail Pick.head)
end
attribute [local irreducible] SL.TK SL.TO SL.TD SL.PV SL.Pick SL.Frm SL.Ent SL.Sub SL.EvAll SL.seps SL.sep SL.Cut SL.PutAt SL.blk SL.EvP SL.Fill SL.Src SL.EntD SL.own SL.ex SL.fact SL.orig

def frameF (bs : List UInt8) : Fr := ⟨false, 0, false, 1, bs⟩
theorem putN_frame (m : Nat) (bs : List UInt8) (hm : m < 4096) (hb : bs.length ≤ 60) : putN m (frameF bs) = 0 := by
  unfold putN frameF mayF
  simp
  omega

theorem u8_dec {x : UInt8} (h : x ≠ 0) : andI .u8 x.toNat ((x.toNat : Int) - 1) = ((x &&& (x - 1)).toNat : Int) := by
  have h1 : 1 ≤ x.toNat := by
    rcases Nat.eq_zero_or_pos x.toNat with e | e
    · exact absurd (UInt8.toNat_inj.1 e) h
    · exact e
  have e1 : (x - 1).toNat = x.toNat - 1 := by
    rw [UInt8.toNat_sub_of_le]
    · rfl
    · rw [UInt8.le_iff_toNat_le]; exact h1
  have hb : ∀ y : UInt8, BitVec.ofInt IntKind.u8.bits (y.toNat : Int) = y.toBitVec := by
    intro y
    apply BitVec.eq_of_toNat_eq
    have := y.toNat_lt
    simp [IntKind.bits, BitVec.toNat_ofInt]
  have e2 : (x.toNat : Int) - 1 = ((x - 1).toNat : Int) := by rw [e1]; omega
  unfold andI
  rw [e2, hb, hb]
  exact wrap_u8_toNat (x &&& (x - 1))


/-- the inner loop: a byte of at most one bit -/
def fin (E : Env) (L0 : List HProp) (tot : Nat) (ρ : Env) (L : List HProp) (m : Nat) : Prop := ∃ (c : Nat) (x : UInt8), x &&& (x - 1) = 0 ∧ c + (if x = 0 then 0 else 1) = tot ∧
  ρ = (9, .int .i64 c) :: (11, .int .u8 x.toNat) :: E ∧ L = L0 ∧ m = if x = 0 then 0 else 1
theorem flips_inner {post : Post} {k : List Item} (v0 v1 v5 v6 v8 v71 v72 : Value) (L0 : List HProp) (c0 tot : Nat) (x0 : UInt8) (h1 : Hid (x0 &&& (x0 - 1) = 0)) (h2 : Hid (c0 + (if x0 = 0 then 0 else 1) = tot)) (ht : tot ≤ 60)
    (hk : TK Try.prog 4 Try.f4.ntmps post k [(9, .int .i64 tot), (0, v0), (1, v1), (5, v5), (6, v6), (8, v8), (71, v71), (72, v72)] L0) :
    TK Try.prog 4 Try.f4.ntmps post (.code (loopAt Try.f4 1) :: k) [(9, .int .i64 c0), (11, .int .u8 x0.toNat), (0, v0), (1, v1), (5, v5), (6, v6), (8, v8), (71, v71), (72, v72)] L0 := by
  refine SL.TK.block ?_
  refine SL.TK.loopD (fin [(0, v0), (1, v1), (5, v5), (6, v6), (8, v8), (71, v71), (72, v72)] L0 tot) ?_ ⟨c0, x0, h1.out, h2.out, rfl, rfl, rfl⟩ (by first | ((repeat (first | exact SL.Sub.nil | refine SL.Sub.cons (by rfl) (by first | rfl | exact SL.int_eq (by omega)) ?_)); done) | fail) EntD.refl
  rintro ρ L m ⟨c, y, hy, hcy, rfl, rfl, rfl⟩ ih2
  by_cases hy0 : y = 0
  · subst hy0
    have hcc : c = tot := by simpa using hcy
    subst hcc
    clear hcy hy ih2 h1 h2
    repeat' (first | (refine SL.TO.is ?_; first | refine SL.TO.nil ?_ | (refine SL.TO.nilD ?_; simp only [SL.setB]) | refine SL.W.pass ?_ | refine SL.W.pass0 ?_ | (refine SL.W.pure ?_; first | refine SL.W.pv ?_ | refine SL.W.pv0 ?_ | refine SL.W.lenMp ?_ | (refine SL.W.guardP (fun h => ?_) (fun h => ?_) <;> first | contradiction | (exfalso; omega) | (exfalso; revert h; simp; done) | skip) | (refine SL.W.guardB (fun h => ?_) (fun h => ?_) <;> (fail_if_success (have : h = (rfl : true = true) := rfl)))) | (refine SL.W.loud ?_; first | refine SL.W.load ?_ | refine SL.W.loadA ?_ | refine SL.W.store ?_ | refine SL.W.storeA ?_ | (refine SL.W.box ?_; intro b) | (refine SL.W.alloc ?_; intro b) | (refine SL.W.buildSlice ?_; intro b) | (refine SL.W.append ?_; intro a cap) | refine SL.W.bytesToStr ?_ | (refine SL.W.makeSlice ?_; intro b) | refine SL.W.lookupOk ?_ | refine SL.W.lookup ?_ | (refine SL.W.makeMap ?_; intro b) | refine SL.W.mapUpdate ?_ | (refine SL.W.mapEntry ?_; intro stamp) | refine SL.W.entryStore ?_ | (refine SL.W.range ?_; intro it) | refine SL.W.delete ?_ | (refine SL.W.guardP (fun h => ?_) (fun h => ?_) <;> first | contradiction | (exfalso; omega) | (exfalso; revert h; simp; done) | skip) | (refine SL.W.guardB (fun h => ?_) (fun h => ?_) <;> (fail_if_success (have : h = (rfl : true = true) := rfl))))) | (refine SL.TK.is ?_; first | exact SL.TK.weakD (by first | ((repeat (first | exact SL.Sub.nil | refine SL.Sub.cons (by rfl) (by first | rfl | exact SL.int_eq (by omega)) ?_)); done) | fail) EntD.refl hk | refine SL.TK.seq ?_ | refine SL.TK.region ?_ | refine SL.TK.regionD SL.mixed (by simp only [SL.falses] <;> rfl) ?_ | refine SL.TK.block ?_ | refine SL.TK.inBlock ?_ | refine SL.TK.skip ?_ | refine SL.TK.scope ?_ | refine SL.TK.inScope ?_ | refine SL.TK.label ?_ | refine SL.W.exit ?_ | refine SL.W.condT ?_ | refine SL.W.condF ?_ | (refine SL.W.condP (fun h => ?_) (fun h => ?_) <;> first | contradiction | (exfalso; omega) | (exfalso; revert h; simp; done) | skip) | refine SL.W.condB (fun h => ?_) (fun h => ?_)) | (refine SL.TD.is ?_; first | (refine SL.TD.fin (by rfl) ?_; simp only [List.append_nil, List.cons_append, List.nil_append]) | refine SL.W.dpass ?_ | refine SL.W.dpure ?_ | refine SL.W.dload ?_ | refine SL.W.dloadA ?_ | refine SL.W.dfrz ?_ | (refine SL.W.dthaw ?_; simp only [List.append_nil, List.cons_append, List.nil_append]) | (refine SL.W.dguardP (fun h => ?_) (fun h => ?_) <;> first | contradiction | (exfalso; omega) | (exfalso; revert h; simp; done) | skip) | (refine SL.W.dguardB (fun h => ?_) (fun h => ?_) <;> (fail_if_success (have : h = (rfl : true = true) := rfl))) | refine SL.W.done ?_ | refine SL.W.dtwo ?_ ?_ | refine SL.W.dthree ?_ ?_ ?_))
  · have hyp : 0 < (y.toNat : Int) := by
      rcases Nat.eq_zero_or_pos y.toNat with e | e
      · exact absurd (UInt8.toNat_inj.1 e) hy0
      · omega
    have hy255 := y.toNat_lt
    have hdec := Lib.hid (u8_dec hy0)
    have hyH := Lib.hid hy
    have hcyH := Lib.hid (show c + 1 = tot by simpa [hy0] using hcy)
    have hcT : c < tot := by have := hcyH.out; omega
    clear hy hcy h1 h2
    repeat' (first | (refine SL.TO.is ?_; first | (refine SL.TO.door (o := ⟨_, .call ⟨.value (.func 99), _, _⟩, _, _, _, _⟩) ?_; first | skip) | refine SL.TO.nil ?_ | (refine SL.TO.nilD ?_; simp only [SL.setB]) | refine SL.W.pass ?_ | refine SL.W.pass0 ?_ | (refine SL.W.pure ?_; first | refine SL.W.pv ?_ | refine SL.W.pv0 ?_ | refine SL.W.lenMp ?_ | (refine SL.W.guardP (fun h => ?_) (fun h => ?_) <;> first | contradiction | (exfalso; omega) | (exfalso; revert h; simp; done) | skip) | (refine SL.W.guardB (fun h => ?_) (fun h => ?_) <;> (fail_if_success (have : h = (rfl : true = true) := rfl)))) | (refine SL.W.loud ?_; first | refine SL.W.load ?_ | refine SL.W.loadA ?_ | refine SL.W.store ?_ | refine SL.W.storeA ?_ | (refine SL.W.box ?_; intro b) | (refine SL.W.alloc ?_; intro b) | (refine SL.W.buildSlice ?_; intro b) | (refine SL.W.append ?_; intro a cap) | refine SL.W.bytesToStr ?_ | (refine SL.W.makeSlice ?_; intro b) | refine SL.W.lookupOk ?_ | refine SL.W.lookup ?_ | (refine SL.W.makeMap ?_; intro b) | refine SL.W.mapUpdate ?_ | (refine SL.W.mapEntry ?_; intro stamp) | refine SL.W.entryStore ?_ | (refine SL.W.range ?_; intro it) | refine SL.W.delete ?_ | (refine SL.W.guardP (fun h => ?_) (fun h => ?_) <;> first | contradiction | (exfalso; omega) | (exfalso; revert h; simp; done) | skip) | (refine SL.W.guardB (fun h => ?_) (fun h => ?_) <;> (fail_if_success (have : h = (rfl : true = true) := rfl))))) | (refine SL.TK.is ?_; first | refine SL.TK.seq ?_ | refine SL.TK.region ?_ | refine SL.TK.regionD SL.mixed (by simp only [SL.falses] <;> rfl) ?_ | refine SL.TK.block ?_ | refine SL.TK.inBlock ?_ | refine SL.TK.skip ?_ | refine SL.TK.scope ?_ | refine SL.TK.inScope ?_ | refine SL.TK.label ?_ | refine SL.W.exit ?_ | refine SL.W.condT ?_ | refine SL.W.condF ?_ | (refine SL.W.condP (fun h => ?_) (fun h => ?_) <;> first | contradiction | (exfalso; omega) | (exfalso; revert h; simp; done) | skip) | refine SL.W.condB (fun h => ?_) (fun h => ?_)) | (refine SL.TD.is ?_; first | (refine SL.TD.fin (by rfl) ?_; simp only [List.append_nil, List.cons_append, List.nil_append]) | refine SL.W.dpass ?_ | refine SL.W.dpure ?_ | refine SL.W.dload ?_ | refine SL.W.dloadA ?_ | refine SL.W.dfrz ?_ | (refine SL.W.dthaw ?_; simp only [List.append_nil, List.cons_append, List.nil_append]) | (refine SL.W.dguardP (fun h => ?_) (fun h => ?_) <;> first | contradiction | (exfalso; omega) | (exfalso; revert h; simp; done) | skip) | (refine SL.W.dguardB (fun h => ?_) (fun h => ?_) <;> (fail_if_success (have : h = (rfl : true = true) := rfl))) | refine SL.W.done ?_ | refine SL.W.dtwo ?_ ?_ | refine SL.W.dthree ?_ ?_ ?_))
    refine SL.TK.againD ih2 ⟨c + 1, 0, by decide, by simpa using hcyH.out, rfl, rfl, rfl⟩ (Sub.cons (by rfl) (by first | rfl | exact int_eq (by omega)) (Sub.cons (by rfl) (by rw [hdec.out, hyH.out] <;> rfl) (by first | ((repeat (first | exact SL.Sub.nil | refine SL.Sub.cons (by rfl) (by first | rfl | exact SL.int_eq (by omega)) ?_)); done) | fail))) EntD.refl (by simp [hy0])

def fout (E : Env) (L0 : List HProp) (T : Nat → Nat) (n : Nat) (ρ : Env) (L : List HProp) (m : Nat) : Prop := ∃ i : Nat, i ≤ n ∧
  ρ = (9, .int .i64 (T i)) :: (72, .int .i64 i) :: E ∧ L = L0 ∧ m = n - i
theorem flips_outer {post : Post} {k : List Item} (W : World) (a : Option Addr) (cap nb bl cl1 : Nat) (bs : List UInt8) (v1 v6 : Value) (g f : Fr) (T : Nat → Nat) (sa sb : Option Addr × Nat) (exl : List Value)
    (h60 : bs.length ≤ 60) (hgl : Hid (g.bs.length = bs.length)) (ha : bs.length ≠ 0 → ∃ q, a = some q) (hcell : Hid (∀ q, a = some q → ∀ j x, bs[j]? = some x → W.cell? (q.add j) = some (byteV x)))
    (hTl : ∀ i, T i ≤ i) (hT0 : Hid (T 0 = 0))
    (hx : Hid (∀ i (h : i < bs.length) (h' : i < g.bs.length), (g.bs[i] ^^^ bs[i]) &&& ((g.bs[i] ^^^ bs[i]) - 1) = 0 ∧ T i + (if g.bs[i] ^^^ bs[i] = 0 then 0 else 1) = T (i + 1)))
    (hk : TK Try.prog 4 Try.f4.ntmps post k [(9, .int .i64 (T bs.length)), (0, .slice a bs.length cap), (1, v1), (5, .pointer (some ⟨nb, 0, none⟩)), (6, v6), (8, .slice (some ⟨bl, 0, none⟩) 2 cl1)]
      [byt sa g.bs, orig W, byt sb f.bs, SL.blk bl 31 (frV g sa ++ (frV f sb ++ exl)), NetAt nb [g, f]]) :
    TK Try.prog 4 Try.f4.ntmps post (.code (loopAt Try.f4 0) :: k) [(9, .int .i64 0), (72, .int .i64 0), (0, .slice a bs.length cap), (1, v1), (5, .pointer (some ⟨nb, 0, none⟩)), (6, v6), (8, .slice (some ⟨bl, 0, none⟩) 2 cl1), (71, .int .i64 bs.length)]
      [byt sa g.bs, orig W, byt sb f.bs, SL.blk bl 31 (frV g sa ++ (frV f sb ++ exl)), NetAt nb [g, f]] := by
  refine SL.TK.slot (d := 9) (by rfl) (v' := .int .i64 (T 0)) (by rw [hT0.out]; rfl) ?_
  refine SL.TK.block ?_
  refine SL.TK.loopD (fout [(0, .slice a bs.length cap), (1, v1), (5, .pointer (some ⟨nb, 0, none⟩)), (6, v6), (8, .slice (some ⟨bl, 0, none⟩) 2 cl1), (71, .int .i64 bs.length)]
    [byt sa g.bs, orig W, byt sb f.bs, SL.blk bl 31 (frV g sa ++ (frV f sb ++ exl)), NetAt nb [g, f]] T bs.length) ?_ ⟨0, Nat.zero_le _, rfl, rfl, rfl⟩ (by first | ((repeat (first | exact SL.Sub.nil | refine SL.Sub.cons (by rfl) (by first | rfl | exact SL.int_eq (by omega)) ?_)); done) | fail) EntD.refl
  rintro ρ L m ⟨i, hi, rfl, rfl, rfl⟩ ih
  by_cases hlt : i < bs.length
  · obtain ⟨q, hq⟩ := ha (by omega)
    subst hq
    obtain ⟨sa1, sa2⟩ := sa
    refine SL.TK.ownPos (e := 5) (a := sa1) (by first | ((repeat (first | exact SL.Pick.head | apply SL.Pick.tail)); done) | fail) (by have := hgl.out; omega) (fun b0 extra ea e1 e2 e3 => ?_)
    subst ea
    have hE := Lib.hid (And.intro e1 e2)
    clear e1 e2
    have hig : i < g.bs.length := by have := hgl.out; omega
    have hn := nth_bytes (ex := extra) hig
    have hc := hcell.out q rfl (i * 1) bs[i] (by rw [Nat.mul_one]; exact List.getElem?_eq_getElem hlt)
    have hxx := Lib.hid (hx.out i hlt hig)
    have hxo := Lib.hid (xorI_u8 g.bs[i] bs[i])
    have hTi := hTl i
    have hT1 := hTl (i + 1)
    repeat' (first | (refine SL.TO.is ?_; first | refine SL.TO.nil ?_ | (refine SL.TO.nilD ?_; simp only [SL.setB]) | refine SL.W.pass ?_ | refine SL.W.pass0 ?_ | (refine SL.W.pure ?_; first | refine SL.W.pv ?_ | refine SL.W.pv0 ?_ | refine SL.W.lenMp ?_ | (refine SL.W.guardP (fun h => ?_) (fun h => ?_) <;> first | contradiction | (exfalso; omega) | (exfalso; revert h; simp; done) | skip) | (refine SL.W.guardB (fun h => ?_) (fun h => ?_) <;> (fail_if_success (have : h = (rfl : true = true) := rfl)))) | (refine SL.W.loud ?_; first | refine SL.W.load ?_ | refine SL.W.loadA ?_ | refine SL.W.store ?_ | refine SL.W.storeA ?_ | (refine SL.W.box ?_; intro b) | (refine SL.W.alloc ?_; intro b) | (refine SL.W.buildSlice ?_; intro b) | (refine SL.W.append ?_; intro a cap) | refine SL.W.bytesToStr ?_ | (refine SL.W.makeSlice ?_; intro b) | refine SL.W.lookupOk ?_ | refine SL.W.lookup ?_ | (refine SL.W.makeMap ?_; intro b) | refine SL.W.mapUpdate ?_ | (refine SL.W.mapEntry ?_; intro stamp) | refine SL.W.entryStore ?_ | (refine SL.W.range ?_; intro it) | refine SL.W.delete ?_ | (refine SL.W.guardP (fun h => ?_) (fun h => ?_) <;> first | contradiction | (exfalso; omega) | (exfalso; revert h; simp; done) | skip) | (refine SL.W.guardB (fun h => ?_) (fun h => ?_) <;> (fail_if_success (have : h = (rfl : true = true) := rfl))))) | (refine SL.TK.is ?_; first | (refine SL.TK.slot (d := 11) (by rfl) (v' := .int .u8 (g.bs[i] ^^^ bs[i]).toNat) (congrArg (Value.int .u8) hxo.out) ?_; refine SL.TK.weakD (by first | ((repeat (first | exact SL.Sub.nil | refine SL.Sub.cons (by rfl) (by first | rfl | exact SL.int_eq (by omega)) ?_)); done) | fail) EntD.refl (flips_inner _ _ _ _ _ _ _ _ (T i) (T (i + 1)) (g.bs[i] ^^^ bs[i]) hxx.out.1 hxx.out.2 (by omega) ?_)) | refine SL.TK.seq ?_ | refine SL.TK.region ?_ | refine SL.TK.regionD SL.mixed (by simp only [SL.falses] <;> rfl) ?_ | refine SL.TK.block ?_ | refine SL.TK.inBlock ?_ | refine SL.TK.skip ?_ | refine SL.TK.scope ?_ | refine SL.TK.inScope ?_ | refine SL.TK.label ?_ | refine SL.W.exit ?_ | refine SL.W.condT ?_ | refine SL.W.condF ?_ | (refine SL.W.condP (fun h => ?_) (fun h => ?_) <;> first | contradiction | (exfalso; omega) | (exfalso; revert h; simp; done) | skip) | refine SL.W.condB (fun h => ?_) (fun h => ?_)) | (refine SL.TD.is ?_; first | refine SL.TD.frzO (by first | ((repeat (first | exact SL.Pick.head | apply SL.Pick.tail)); done) | fail) ?_ | refine SL.TD.loadC (by rfl) (by rfl) (by infer_instance) (by rfl) rfl (by rfl) (by rfl) (by rfl) (by first | ((repeat (first | exact SL.Pick.head | apply SL.Pick.tail)); done) | fail) hn (by simp only [SL.setB] <;> rfl) ?_ | refine SL.TD.loadO (by rfl) (by rfl) (by infer_instance) (by rfl) rfl (by rfl) (by rfl) (by rfl) (by first | ((repeat (first | exact SL.Pick.head | apply SL.Pick.tail)); done) | fail) hc (by simp only [SL.setB] <;> rfl) ?_ | (refine SL.TD.fin (by rfl) ?_; simp only [List.append_nil, List.cons_append, List.nil_append]) | refine SL.W.dpass ?_ | refine SL.W.dpure ?_ | refine SL.W.dload ?_ | refine SL.W.dloadA ?_ | refine SL.W.dfrz ?_ | (refine SL.W.dthaw ?_; simp only [List.append_nil, List.cons_append, List.nil_append]) | (refine SL.W.dguardP (fun h => ?_) (fun h => ?_) <;> first | contradiction | (exfalso; omega) | (exfalso; revert h; simp; done) | skip) | (refine SL.W.dguardB (fun h => ?_) (fun h => ?_) <;> (fail_if_success (have : h = (rfl : true = true) := rfl))) | refine SL.W.done ?_ | refine SL.W.dtwo ?_ ?_ | refine SL.W.dthree ?_ ?_ ?_))
    refine SL.TK.againD ih ⟨i + 1, by omega, rfl, rfl, rfl⟩ (by first | ((repeat (first | exact SL.Sub.nil | refine SL.Sub.cons (by rfl) (by first | rfl | exact SL.int_eq (by omega)) ?_)); done) | fail) ?_ (by omega)
    exact EntD.frm (by first | ((repeat (first | exact SL.Frm.nil | exact SL.Frm.refl | (apply SL.Frm.cons; repeat (first | exact SL.Pick.head | apply SL.Pick.tail)))); done) | fail) (own_of_blk hE.out.1 hE.out.2 e3) (EntD.cons (by first | ((repeat (first | exact SL.Pick.head | apply SL.Pick.tail)); done) | fail) (EntD.cons (by first | ((repeat (first | exact SL.Pick.head | apply SL.Pick.tail)); done) | fail) (EntD.cons (by first | ((repeat (first | exact SL.Pick.head | apply SL.Pick.tail)); done) | fail) (EntD.cons (by first | ((repeat (first | exact SL.Pick.head | apply SL.Pick.tail)); done) | fail) EntD.nil))))
  · have hil : i = bs.length := by omega
    subst hil
    clear ih
    repeat' (first | (refine SL.TO.is ?_; first | refine SL.TO.nil ?_ | (refine SL.TO.nilD ?_; simp only [SL.setB]) | refine SL.W.pass ?_ | refine SL.W.pass0 ?_ | (refine SL.W.pure ?_; first | refine SL.W.pv ?_ | refine SL.W.pv0 ?_ | refine SL.W.lenMp ?_ | (refine SL.W.guardP (fun h => ?_) (fun h => ?_) <;> first | contradiction | (exfalso; omega) | (exfalso; revert h; simp; done) | skip) | (refine SL.W.guardB (fun h => ?_) (fun h => ?_) <;> (fail_if_success (have : h = (rfl : true = true) := rfl)))) | (refine SL.W.loud ?_; first | refine SL.W.load ?_ | refine SL.W.loadA ?_ | refine SL.W.store ?_ | refine SL.W.storeA ?_ | (refine SL.W.box ?_; intro b) | (refine SL.W.alloc ?_; intro b) | (refine SL.W.buildSlice ?_; intro b) | (refine SL.W.append ?_; intro a cap) | refine SL.W.bytesToStr ?_ | (refine SL.W.makeSlice ?_; intro b) | refine SL.W.lookupOk ?_ | refine SL.W.lookup ?_ | (refine SL.W.makeMap ?_; intro b) | refine SL.W.mapUpdate ?_ | (refine SL.W.mapEntry ?_; intro stamp) | refine SL.W.entryStore ?_ | (refine SL.W.range ?_; intro it) | refine SL.W.delete ?_ | (refine SL.W.guardP (fun h => ?_) (fun h => ?_) <;> first | contradiction | (exfalso; omega) | (exfalso; revert h; simp; done) | skip) | (refine SL.W.guardB (fun h => ?_) (fun h => ?_) <;> (fail_if_success (have : h = (rfl : true = true) := rfl))))) | (refine SL.TK.is ?_; first | exact SL.TK.weakD (by first | ((repeat (first | exact SL.Sub.nil | refine SL.Sub.cons (by rfl) (by first | rfl | exact SL.int_eq (by omega)) ?_)); done) | fail) EntD.refl hk | refine SL.TK.seq ?_ | refine SL.TK.region ?_ | refine SL.TK.regionD SL.mixed (by simp only [SL.falses] <;> rfl) ?_ | refine SL.TK.block ?_ | refine SL.TK.inBlock ?_ | refine SL.TK.skip ?_ | refine SL.TK.scope ?_ | refine SL.TK.inScope ?_ | refine SL.TK.label ?_ | refine SL.W.exit ?_ | refine SL.W.condT ?_ | refine SL.W.condF ?_ | (refine SL.W.condP (fun h => ?_) (fun h => ?_) <;> first | contradiction | (exfalso; omega) | (exfalso; revert h; simp; done) | skip) | refine SL.W.condB (fun h => ?_) (fun h => ?_)) | (refine SL.TD.is ?_; first | (refine SL.TD.fin (by rfl) ?_; simp only [List.append_nil, List.cons_append, List.nil_append]) | refine SL.W.dpass ?_ | refine SL.W.dpure ?_ | refine SL.W.dload ?_ | refine SL.W.dloadA ?_ | refine SL.W.dfrz ?_ | (refine SL.W.dthaw ?_; simp only [List.append_nil, List.cons_append, List.nil_append]) | (refine SL.W.dguardP (fun h => ?_) (fun h => ?_) <;> first | contradiction | (exfalso; omega) | (exfalso; revert h; simp; done) | skip) | (refine SL.W.dguardB (fun h => ?_) (fun h => ?_) <;> (fail_if_success (have : h = (rfl : true = true) := rfl))) | refine SL.W.done ?_ | refine SL.W.dtwo ?_ ?_ | refine SL.W.dthree ?_ ?_ ?_))

set_option maxHeartbeats 2000000 in
theorem flips_core (W : World) (a : Option Addr) (cap n0 : Nat) (bs : List UInt8) (bit : Int) (g : Fr) (code code2 : Int) (ins : Bool) (T : Nat → Nat)
    (hmin : Hid (min (n0 : Int) 60 = (bs.length : Int))) (hcap : n0 ≤ cap) (hlen : bs.length ≤ n0) (h60 : bs.length ≤ 60) (hgl : Hid (g.bs.length = bs.length)) (hX : Rd (orig W) a cap bs)
    (ha : bs.length ≠ 0 → ∃ q, a = some q) (hcell : Hid (∀ q, a = some q → ∀ j x, bs[j]? = some x → W.cell? (q.add j) = some (byteV x)))
    (hI1 : Hid (0 ≤ bit → decide (bit < 8 * (bs.length : Int)) = ins)) (hI2 : Hid (¬ 0 ≤ bit → false = ins)) (hcode : decide (code = 0) = ins) (hne : ¬ ((!ins) = ins))
    (hf1 : ∀ nb, Spec Try.prog 16 [.pointer (some ⟨nb, 0, none⟩), .int .i64 0, .int .i64 bit] [NetAt nb [frameF bs, frameF bs]] (fun r L => r = .int .i64 code ∧ L = [NetAt nb [g, frameF bs]]))
    (hf2 : ∀ nb, Spec Try.prog 16 [.pointer (some ⟨nb, 0, none⟩), .int .i64 0, .int .i64 bit] [NetAt nb [g, frameF bs]] (fun r L => r = .int .i64 code2 ∧ L = [NetAt nb [frameF bs, frameF bs]]))
    (hgb : decide (g.bs = bs) = !ins) (hT0 : Hid (T 0 = 0)) (hTn : Hid (decide ((T bs.length : Int) = 1) = ins)) (hTl : ∀ i, T i ≤ i)
    (hx : Hid (∀ i (h : i < bs.length) (h' : i < g.bs.length), (g.bs[i] ^^^ bs[i]) &&& ((g.bs[i] ^^^ bs[i]) - 1) = 0 ∧ T i + (if g.bs[i] ^^^ bs[i] = 0 then 0 else 1) = T (i + 1))) :
    Spec Try.prog 4 [.slice a n0 cap, .int .i64 bit] [orig W] (fun r L => r = .bool true ∧ L = [orig W]) := by
  have hd (nb : Nat) : Spec Try.prog 14 [.pointer (some ⟨nb, 0, none⟩), .int .i64 0] [NetAt nb [frameF bs]] (fun r L => r = .int .i64 0 ∧ L = [NetAt nb [frameF bs, frameF bs]]) := by
    have := double_spec nb 0 [frameF bs]
    have e : putN 1 (frameF bs) = 0 := putN_frame 1 bs (by omega) h60
    simpa [doubleC, doubleL, putL, e] using this
  have hp (nb : Nat) := put_okG nb [] (frameF bs) (a, cap) hX (putN_frame _ bs (by simp) h60)
  have ha1 (nb : Nat) : Spec Try.prog 8 [.pointer (some ⟨nb, 0, none⟩)] [NetAt nb [g, frameF bs]] (fun r L => ∃ a cap, r = .slice a 2 cap ∧ L = [NetAt nb [g, frameF bs], FrSl a cap [g, frameF bs]]) := all_spec nb _ (by simp) (by have := hgl.out; intro f hf; simp only [List.mem_cons, List.not_mem_nil, or_false] at hf; rcases hf with rfl | rfl; omega; show bs.length ≤ _; omega)
  have ha2 (nb : Nat) : Spec Try.prog 8 [.pointer (some ⟨nb, 0, none⟩)] [NetAt nb [frameF bs, frameF bs]] (fun r L => ∃ a cap, r = .slice a 2 cap ∧ L = [NetAt nb [frameF bs, frameF bs], FrSl a cap [frameF bs, frameF bs]]) := all_spec nb _ (by simp) (by simp [frameF]; omega)
  have he1 (s1 : Option Addr × Nat) := equal_X s1 a cap (frameF bs).bs bs true hX (by simp [frameF])
  have he2 (s1 : Option Addr × Nat) := equal_X s1 a cap g.bs bs (!ins) hX hgb
  clear hgb
  refine SL.Spec.of_TK Go.Proofs.Try.func4 rfl rfl SL.call4 rfl ?_
  repeat' (first | (refine SL.TO.is ?_; first | (refine SL.TO.door (o := ⟨_, .slice _ _ _ _ _, _, _, _, _⟩) ?_; first | refine SL.TO.pv (by rfl) rfl (SL.PV.sliceHi (hi := bs.length) (by rfl) (by rfl) hmin.out (by omega)) ?_) | (refine SL.TO.door (o := ⟨_, .call ⟨.value (.func 7), _, _⟩, _, _, _, _⟩) ?_; first | (refine SL.W.call (new_spec) ?_; rintro _ _ ⟨nb, rfl, rfl⟩; try simp only [List.cons_append, List.nil_append])) | (refine SL.TO.door (o := ⟨_, .call ⟨.value (.func 10), _, _⟩, _, _, _, _⟩) ?_; first | (refine SL.W.call (frame_spec _ _ _) ?_; rintro _ _ ⟨rfl, rfl⟩; try simp only [List.cons_append, List.nil_append])) | (refine SL.TO.door (o := ⟨_, .call ⟨.value (.func 9), _, _⟩, _, _, _, _⟩) ?_; first | (refine SL.W.call (hp _) ?_; rintro _ _ ⟨rfl, rfl⟩; try simp only [List.cons_append, List.nil_append])) | (refine SL.TO.door (o := ⟨_, .call ⟨.value (.func 14), _, _⟩, _, _, _, _⟩) ?_; first | (refine SL.W.call (hd _) ?_; rintro _ _ ⟨rfl, rfl⟩; try simp only [List.cons_append, List.nil_append])) | (refine SL.TO.door (o := ⟨_, .call ⟨.value (.func 16), _, _⟩, _, _, _, _⟩) ?_; first | ((first | refine SL.TO.slot (d := 6) (by rfl) (v' := .bool ins) (congrArg Value.bool (hI1.out (by omega))) ?_ | refine SL.TO.slot (d := 6) (by rfl) (v' := .bool ins) (congrArg Value.bool (hI2.out (by omega))) ?_); (refine SL.W.call (hf1 _) ?_; rintro _ _ ⟨rfl, rfl⟩; try simp only [List.cons_append, List.nil_append]))) | (refine SL.TO.door (o := ⟨_, .call ⟨.value (.func 8), _, _⟩, _, _, _, _⟩) ?_; first | (refine SL.W.call (ha1 _) ?_; rintro _ _ ⟨al1, cl1, rfl, rfl⟩; try simp only [List.cons_append, List.nil_append])) | (refine SL.TO.door (o := ⟨_, .call ⟨.value (.func 12), _, _⟩, _, _, _, _⟩) ?_; first | (refine SL.W.call (he1 _) ?_; rintro _ _ ⟨rfl, rfl⟩; try simp only [List.cons_append, List.nil_append]) | (refine SL.W.call (he2 _) ?_; rintro _ _ ⟨rfl, rfl⟩; try simp only [List.cons_append, List.nil_append])) | refine SL.TO.nil ?_ | (refine SL.TO.nilD ?_; simp only [SL.setB]) | refine SL.W.pass ?_ | refine SL.W.pass0 ?_ | (refine SL.W.pure ?_; first | refine SL.W.pv ?_ | refine SL.W.pv0 ?_ | refine SL.W.lenMp ?_ | (refine SL.W.guardP (fun h => ?_) (fun h => ?_) <;> first | contradiction | (exfalso; omega) | (exfalso; revert h; simp; done) | skip) | (refine SL.W.guardB (fun h => ?_) (fun h => ?_) <;> (fail_if_success (have : h = (rfl : true = true) := rfl)))) | (refine SL.W.loud ?_; first | refine SL.W.load ?_ | refine SL.W.loadA ?_ | refine SL.W.store ?_ | refine SL.W.storeA ?_ | (refine SL.W.box ?_; intro b) | (refine SL.W.alloc ?_; intro b) | (refine SL.W.buildSlice ?_; intro b) | (refine SL.W.append ?_; intro a cap) | refine SL.W.bytesToStr ?_ | (refine SL.W.makeSlice ?_; intro b) | refine SL.W.lookupOk ?_ | refine SL.W.lookup ?_ | (refine SL.W.makeMap ?_; intro b) | refine SL.W.mapUpdate ?_ | (refine SL.W.mapEntry ?_; intro stamp) | refine SL.W.entryStore ?_ | (refine SL.W.range ?_; intro it) | refine SL.W.delete ?_ | (refine SL.W.guardP (fun h => ?_) (fun h => ?_) <;> first | contradiction | (exfalso; omega) | (exfalso; revert h; simp; done) | skip) | (refine SL.W.guardB (fun h => ?_) (fun h => ?_) <;> (fail_if_success (have : h = (rfl : true = true) := rfl))))) | (refine SL.TK.is ?_; first | (refine SL.TK.openFr2 (by first | ((repeat (first | exact SL.Pick.head | apply SL.Pick.tail)); done) | fail) (fun bl exl sa sb ea => ?_); subst ea) | (refine SL.W.loop (flips_outer W a cap nb bl cl1 bs _ _ g (frameF bs) T sa sb exl h60 hgl ha hcell hTl hT0 hx ?_); clear hx) | refine SL.TK.seq ?_ | refine SL.TK.region ?_ | refine SL.TK.regionD SL.mixed (by simp only [SL.falses] <;> rfl) ?_ | refine SL.TK.block ?_ | refine SL.TK.inBlock ?_ | refine SL.TK.skip ?_ | refine SL.TK.scope ?_ | refine SL.TK.inScope ?_ | refine SL.TK.label ?_ | refine SL.W.exit ?_ | refine SL.W.condT ?_ | refine SL.W.condF ?_ | (refine SL.W.condP (fun h => ?_) (fun h => ?_) <;> first | contradiction | (exfalso; omega) | (exfalso; revert h; simp; done) | skip) | refine SL.W.condB (fun h => ?_) (fun h => ?_)) | (refine SL.TD.is ?_; first | (refine SL.TD.fin (by rfl) ?_; simp only [List.append_nil, List.cons_append, List.nil_append]) | refine SL.W.dpass ?_ | refine SL.W.dpure ?_ | refine SL.W.dload ?_ | refine SL.W.dloadA ?_ | refine SL.W.dfrz ?_ | (refine SL.W.dthaw ?_; simp only [List.append_nil, List.cons_append, List.nil_append]) | (refine SL.W.dguardP (fun h => ?_) (fun h => ?_) <;> first | contradiction | (exfalso; omega) | (exfalso; revert h; simp; done) | skip) | (refine SL.W.dguardB (fun h => ?_) (fun h => ?_) <;> (fail_if_success (have : h = (rfl : true = true) := rfl))) | refine SL.W.done ?_ | refine SL.W.dtwo ?_ ?_ | refine SL.W.dthree ?_ ?_ ?_))
  all_goals
    have he3 (s1 : Option Addr × Nat) := equal_X s1 a cap (frameF bs).bs bs true hX (by simp [frameF])
    repeat' (first | (refine SL.TO.is ?_; first | (refine SL.TO.door (o := ⟨_, .call ⟨.value (.func 16), _, _⟩, _, _, _, _⟩) ?_; first | (refine SL.W.call (hf2 _) ?_; rintro _ _ ⟨rfl, rfl⟩; try simp only [List.cons_append, List.nil_append])) | (refine SL.TO.door (o := ⟨_, .call ⟨.value (.func 15), _, _⟩, _, _, _, _⟩) ?_; first | (refine SL.W.call (awake_spec) ?_; rintro _ _ ⟨rfl, rfl⟩; try simp only [List.cons_append, List.nil_append])) | (refine SL.TO.door (o := ⟨_, .call ⟨.value (.func 8), _, _⟩, _, _, _, _⟩) ?_; first | (refine SL.W.call (ha2 _) ?_; rintro _ _ ⟨al2, cl2, rfl, rfl⟩; try simp only [List.cons_append, List.nil_append])) | (refine SL.TO.door (o := ⟨_, .indexAddr _ _ _, _, _, _, _⟩) ?_; first | (refine SL.TO.openFr2 (by first | ((repeat (first | exact SL.Pick.head | apply SL.Pick.tail)); done) | fail) (fun bl2 exl2 sa2 sb2 ea => ?_); subst ea)) | (refine SL.TO.door (o := ⟨_, .call ⟨.value (.func 12), _, _⟩, _, _, _, _⟩) ?_; first | (refine SL.W.call (he3 _) ?_; rintro _ _ ⟨rfl, rfl⟩; try simp only [List.cons_append, List.nil_append])) | refine SL.TO.nil ?_ | (refine SL.TO.nilD ?_; simp only [SL.setB]) | refine SL.W.pass ?_ | refine SL.W.pass0 ?_ | (refine SL.W.pure ?_; first | refine SL.W.pv ?_ | refine SL.W.pv0 ?_ | refine SL.W.lenMp ?_ | (refine SL.W.guardP (fun h => ?_) (fun h => ?_) <;> first | contradiction | (exfalso; omega) | (exfalso; revert h; simp; done) | skip) | (refine SL.W.guardB (fun h => ?_) (fun h => ?_) <;> (fail_if_success (have : h = (rfl : true = true) := rfl)))) | (refine SL.W.loud ?_; first | refine SL.W.load ?_ | refine SL.W.loadA ?_ | refine SL.W.store ?_ | refine SL.W.storeA ?_ | (refine SL.W.box ?_; intro b) | (refine SL.W.alloc ?_; intro b) | (refine SL.W.buildSlice ?_; intro b) | (refine SL.W.append ?_; intro a cap) | refine SL.W.bytesToStr ?_ | (refine SL.W.makeSlice ?_; intro b) | refine SL.W.lookupOk ?_ | refine SL.W.lookup ?_ | (refine SL.W.makeMap ?_; intro b) | refine SL.W.mapUpdate ?_ | (refine SL.W.mapEntry ?_; intro stamp) | refine SL.W.entryStore ?_ | (refine SL.W.range ?_; intro it) | refine SL.W.delete ?_ | (refine SL.W.guardP (fun h => ?_) (fun h => ?_) <;> first | contradiction | (exfalso; omega) | (exfalso; revert h; simp; done) | skip) | (refine SL.W.guardB (fun h => ?_) (fun h => ?_) <;> (fail_if_success (have : h = (rfl : true = true) := rfl))))) | (refine SL.TK.is ?_; first | refine SL.TK.seq ?_ | refine SL.TK.region ?_ | refine SL.TK.regionD SL.mixed (by simp only [SL.falses] <;> rfl) ?_ | refine SL.TK.block ?_ | refine SL.TK.inBlock ?_ | refine SL.TK.skip ?_ | refine SL.TK.scope ?_ | refine SL.TK.inScope ?_ | refine SL.TK.label ?_ | refine SL.W.exit ?_ | refine SL.W.condT ?_ | refine SL.W.condF ?_ | (refine SL.W.condP (fun h => ?_) (fun h => ?_) <;> first | contradiction | (exfalso; omega) | (exfalso; revert h; simp; done) | skip) | refine SL.W.condB (fun h => ?_) (fun h => ?_)) | (refine SL.TD.is ?_; first | (refine SL.TD.fin (by rfl) ?_; simp only [List.append_nil, List.cons_append, List.nil_append]) | refine SL.W.dpass ?_ | refine SL.W.dpure ?_ | refine SL.W.dload ?_ | refine SL.W.dloadA ?_ | refine SL.W.dfrz ?_ | (refine SL.W.dthaw ?_; simp only [List.append_nil, List.cons_append, List.nil_append]) | (refine SL.W.dguardP (fun h => ?_) (fun h => ?_) <;> first | contradiction | (exfalso; omega) | (exfalso; revert h; simp; done) | skip) | (refine SL.W.dguardB (fun h => ?_) (fun h => ?_) <;> (fail_if_success (have : h = (rfl : true = true) := rfl))) | refine SL.W.done ?_ | refine SL.W.dtwo ?_ ?_ | refine SL.W.dthree ?_ ?_ ?_))
    exact SL.TK.retD Try.func4 (SL.Res.one rfl (by rfl)) ⟨by simp only [hTn.out]; simp, rfl⟩ (EntD.cons (by first | ((repeat (first | exact SL.Pick.head | apply SL.Pick.tail)); done) | fail) EntD.nil)
end SL
