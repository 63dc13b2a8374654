/-
  Chapter 29: NetKeeps: the two inner loops.
-/
import Derived.Test.YtidogcbcknpdiaaNet12
set_option linter.unusedVariables false
set_option linter.unusedSimpArgs false
set_option maxRecDepth 10000
namespace SL
open Go Go.Proofs Go.RowKit
theorem frames_back2 {k b1 c2 : Nat} {f : Fr} {ex : List Value} {fs : Frs} (hk : fs[k]? = some (f, (some ⟨b1, 0, none⟩, c2))) (h1 : (f.bs.map byteV ++ ex).length = c2 * 1) (h2 : f.bs.length ≤ c2) :
    ∀ h, seps [SL.blk b1 5 (f.bs.map byteV ++ ex), seps (framesP (fs.eraseIdx k))] h → seps (framesP fs) h :=
  fun h x => frames_back hk h (sep_mono (fun _ y => own_blk (n := f.bs.length) (by simp) h1 h2 y) (fun _ y => y) x)
attribute [local irreducible] SL.TK SL.TO SL.TD SL.PV SL.Pick SL.Frm SL.Ent SL.Sub SL.EvAll SL.seps SL.sep SL.Cut SL.PutAt SL.blk SL.EvP SL.Fill SL.Src SL.EntD SL.own SL.ex SL.fact SL.orig

def kf (c : UInt8) : Fr := ⟨false, 0, false, 1, [c, c + 1]⟩
theorem cntI_le (cs : List UInt8) (x : Int) : cntI cs x ≤ cs.length := List.countP_le_length

def recInv (al : Option Addr) (cl nowb : Nat) (cs : List UInt8) (fs : Frs) (R : List HProp) (E : Env) (ρ : Env) (L : List HProp) (m : Nat) : Prop := ∃ (j : Nat) (S : List (Int × Value)), j ≤ cs.length ∧ CntOk S (cs.take j) ∧
  ρ = (129, .int .i64 j) :: (128, .int .i64 cs.length) :: (127, .slice al cs.length cl) :: (11, .map (some nowb)) :: E ∧
  L = own 31 5 al cs.length cl (cellsP fs) :: seps (framesP fs) :: mp (Value.int .u8) nowb S :: R ∧ m = cs.length - j
set_option maxHeartbeats 1000000 in
theorem keeps_recount {post : Post} {k : List Item} (al : Option Addr) (cl nowb : Nat) (cs : List UInt8) (R : List HProp) (v3 v4 v18 v19 v20 : Value) (hlen : cs.length ≤ 100) (h100 : ∀ c ∈ cs, c.toNat < 100)
    (hk : ∀ S, CntOk S cs → TK Try.prog 3 Try.f3.ntmps post k [(11, .map (some nowb)), (3, v3), (4, v4), (18, v18), (19, v19), (20, v20)] (mp (Value.int .u8) nowb S :: R)) :
    TK Try.prog 3 Try.f3.ntmps post (.code (loopAt Try.f3 1) :: k) [(129, .int .i64 0), (128, .int .i64 cs.length), (127, .slice al cs.length cl), (11, .map (some nowb)), (3, v3), (4, v4), (18, v18), (19, v19), (20, v20)]
      (FrSl al cl (cs.map kf) :: mp (Value.int .u8) nowb [] :: R) := by
  refine SL.TK.openFr (by first | ((repeat (first | exact SL.Pick.head | apply SL.Pick.tail)); done) | fail) (fun fs hfs => ?_)
  rw [List.length_map]
  have hHl : fs.length = cs.length := by have := congrArg List.length hfs; simpa using this
  have hG := Lib.hid hfs
  clear hfs
  refine SL.TK.block ?_
  refine SL.TK.loopD (recInv al cl nowb cs fs R [(3, v3), (4, v4), (18, v18), (19, v19), (20, v20)]) ?_ ⟨0, [], Nat.zero_le _, CntOk.nil, rfl, rfl, rfl⟩ (by first | ((repeat (first | exact SL.Sub.nil | refine SL.Sub.cons (by rfl) (by first | rfl | exact SL.int_eq (by omega)) ?_)); done) | fail) EntD.refl
  rintro ρ L m ⟨j, S, hj, hS, rfl, rfl, rfl⟩ ih
  by_cases hlt : j < cs.length
  · refine SL.TK.ownPos (e := 31) (sz := 5) (a := al) (by first | ((repeat (first | exact SL.Pick.head | apply SL.Pick.tail)); done) | fail) (by omega) (fun b0 extra ea e1 e2 e3 => ?_)
    subst ea
    obtain ⟨p, hp⟩ : ∃ p, fs[j]? = some p := ⟨fs[j]'(by omega), List.getElem?_eq_getElem (by omega)⟩
    obtain ⟨f, s⟩ := p
    obtain ⟨c, hc⟩ : ∃ c, cs[j]? = some c := ⟨cs[j], List.getElem?_eq_getElem hlt⟩
    have hcm := h100 c (List.mem_of_getElem? hc)
    obtain ⟨d, hd, hc1⟩ : ∃ d : UInt8, kf c = ⟨false, 0, false, 1, [c, d]⟩ ∧ d.toNat = c.toNat + 1 := by
      refine ⟨c + 1, rfl, ?_⟩
      rw [UInt8.toNat_add]
      have : (1 : UInt8).toNat = 1 := rfl
      omega
    have hf : f = ⟨false, 0, false, 1, [c, d]⟩ := by
      have h1 : (fs.map (·.1))[j]? = some f := by rw [List.getElem?_map, hp]; rfl
      rw [hG.out, List.getElem?_map, hc] at h1
      rw [← hd]
      simpa using h1.symm
    subst hf
    clear hd
    have htk : cs.take (j + 1) = cs.take j ++ [c] := by rw [List.take_add_one, hc]; rfl
    have hTK := Lib.hid htk
    clear htk
    have hcut := cellsP_cut (extra := extra) hp
    refine SL.TK.pickFr (by first | ((repeat (first | exact SL.Pick.head | apply SL.Pick.tail)); done) | fail) hp ?_
    have hE := Lib.hid (And.intro e1 e2)
    clear e1 e2
    obtain ⟨s1, s2⟩ := s
    refine SL.TK.ownPos (e := 5) (sz := 1) (a := s1) (by first | ((repeat (first | exact SL.Pick.head | apply SL.Pick.tail)); done) | fail) (by simp) (fun b1 ex ea g1 g2 g3 => ?_)
    subst ea
    have hE2 := Lib.hid (And.intro g1 g2)
    clear g1 g2
    have hcb := cntI_le (cs.take j) c.toNat
    rw [List.length_take] at hcb
    have hSH := Lib.hid hS
    clear hS
    have hP := Lib.hid hp
    clear hp
    repeat' (first | (refine SL.TO.is ?_; first | (refine SL.TO.door (o := ⟨_, .load _ _, _, _, _, _⟩) ?_; first | refine SL.W.loadAN hcut ?_) | (refine SL.TO.door (o := ⟨_, .lookup _ _ _ _, _, _, _, _⟩) ?_; first | (refine SL.W.lookup ?_; refine SL.TO.slot (d := 160) (by rfl) (v' := .int .i64 (cntI (cs.take j) c.toNat)) (hSH.out _) ?_)) | refine SL.TO.nil ?_ | (refine SL.TO.nilD ?_; simp only [SL.setB]) | refine SL.W.pass ?_ | refine SL.W.pass0 ?_ | (refine SL.W.pure ?_; first | refine SL.W.pv ?_ | refine SL.W.pv0 ?_ | refine SL.W.lenMp ?_ | (refine SL.W.guardP (fun h => ?_) (fun h => ?_) <;> (fail_if_success (have : h = trivial := rfl)) <;> (fail_if_success (have : h = not_false := rfl)) <;> first | contradiction | (exfalso; omega) | (exfalso; revert h; simp; done) | skip) | (refine SL.W.guardB (fun h => ?_) (fun h => ?_) <;> (fail_if_success (have : h = (rfl : true = true) := rfl)) <;> (fail_if_success (have : h = (rfl : false = false) := rfl)))) | (refine SL.W.loud ?_; first | refine SL.W.load ?_ | refine SL.W.loadA ?_ | refine SL.W.store ?_ | refine SL.W.storeA ?_ | (refine SL.W.box ?_; intro b) | (refine SL.W.alloc ?_; intro b) | (refine SL.W.buildSlice ?_; intro b) | (refine SL.W.append ?_; intro a cap) | refine SL.W.bytesToStr ?_ | (refine SL.W.makeSlice ?_; intro b) | refine SL.W.lookupOk ?_ | refine SL.W.lookup ?_ | (refine SL.W.makeMap ?_; intro b) | refine SL.W.mapUpdate ?_ | (refine SL.W.mapEntry ?_; intro stamp) | refine SL.W.entryStore ?_ | (refine SL.W.range ?_; intro it) | refine SL.W.delete ?_ | (refine SL.W.guardP (fun h => ?_) (fun h => ?_) <;> (fail_if_success (have : h = trivial := rfl)) <;> (fail_if_success (have : h = not_false := rfl)) <;> first | contradiction | (exfalso; omega) | (exfalso; revert h; simp; done) | skip) | (refine SL.W.guardB (fun h => ?_) (fun h => ?_) <;> (fail_if_success (have : h = (rfl : true = true) := rfl)) <;> (fail_if_success (have : h = (rfl : false = false) := rfl))))) | (refine SL.TK.is ?_; first | refine SL.TK.seq ?_ | refine SL.TK.region ?_ | refine SL.TK.regionD SL.mixed (by simp only [SL.falses] <;> rfl) ?_ | refine SL.TK.block ?_ | refine SL.TK.inBlock ?_ | refine SL.TK.skip ?_ | refine SL.TK.scope ?_ | refine SL.TK.inScope ?_ | refine SL.TK.label ?_ | refine SL.W.exit ?_ | refine SL.W.condT ?_ | refine SL.W.condF ?_ | (refine SL.W.condP (fun h => ?_) (fun h => ?_) <;> (fail_if_success (have : h = trivial := rfl)) <;> (fail_if_success (have : h = not_false := rfl)) <;> first | contradiction | (exfalso; omega) | (exfalso; revert h; simp; done) | skip) | refine SL.W.condB (fun h => ?_) (fun h => ?_)) | (refine SL.TD.is ?_; first | (refine SL.W.dfin ?_; simp only [List.append_nil, List.cons_append, List.nil_append]) | refine SL.W.dpass ?_ | refine SL.W.dpure ?_ | refine SL.W.dload ?_ | refine SL.W.dloadA ?_ | refine SL.W.dfrz ?_ | (refine SL.W.dthaw ?_; simp only [List.append_nil, List.cons_append, List.nil_append]) | (refine SL.W.dguardP (fun h => ?_) (fun h => ?_) <;> (fail_if_success (have : h = trivial := rfl)) <;> (fail_if_success (have : h = not_false := rfl)) <;> first | contradiction | (exfalso; omega) | (exfalso; revert h; simp; done) | skip) | (refine SL.W.dguardB (fun h => ?_) (fun h => ?_) <;> (fail_if_success (have : h = (rfl : true = true) := rfl)) <;> (fail_if_success (have : h = (rfl : false = false) := rfl))) | refine SL.W.done ?_ | refine SL.W.dtwo ?_ ?_ | refine SL.W.dthree ?_ ?_ ?_))
    refine SL.TK.againD ih ⟨j + 1, _, by omega, by rw [hTK.out]; exact hSH.out.add c, rfl, rfl, rfl⟩ (by first | ((repeat (first | exact SL.Sub.nil | refine SL.Sub.cons (by rfl) (by first | rfl | exact SL.int_eq (by omega)) ?_)); done) | fail) ?_ (by omega)
    exact EntD.frm (by first | ((repeat (first | exact SL.Frm.nil | exact SL.Frm.refl | (apply SL.Frm.cons; repeat (first | exact SL.Pick.head | apply SL.Pick.tail)))); done) | fail) (own_of_blk hE.out.1 hE.out.2 e3) (EntD.frm (by first | ((repeat (first | exact SL.Frm.nil | exact SL.Frm.refl | (apply SL.Frm.cons; repeat (first | exact SL.Pick.head | apply SL.Pick.tail)))); done) | fail) (frames_back2 hP.out hE2.out.2 g3) (EntD.cons (by first | ((repeat (first | exact SL.Pick.head | apply SL.Pick.tail)); done) | fail) (EntD.drop1 SL.Pick.head)))
  · have hjl : j = cs.length := by omega
    subst hjl
    rw [List.take_length] at hS
    have hK := Lib.hid (hk S hS)
    clear ih hk hS
    repeat' (first | (refine SL.TO.is ?_; first | refine SL.TO.nil ?_ | (refine SL.TO.nilD ?_; simp only [SL.setB]) | refine SL.W.pass ?_ | refine SL.W.pass0 ?_ | (refine SL.W.pure ?_; first | refine SL.W.pv ?_ | refine SL.W.pv0 ?_ | refine SL.W.lenMp ?_ | (refine SL.W.guardP (fun h => ?_) (fun h => ?_) <;> (fail_if_success (have : h = trivial := rfl)) <;> (fail_if_success (have : h = not_false := rfl)) <;> first | contradiction | (exfalso; omega) | (exfalso; revert h; simp; done) | skip) | (refine SL.W.guardB (fun h => ?_) (fun h => ?_) <;> (fail_if_success (have : h = (rfl : true = true) := rfl)) <;> (fail_if_success (have : h = (rfl : false = false) := rfl)))) | (refine SL.W.loud ?_; first | refine SL.W.load ?_ | refine SL.W.loadA ?_ | refine SL.W.store ?_ | refine SL.W.storeA ?_ | (refine SL.W.box ?_; intro b) | (refine SL.W.alloc ?_; intro b) | (refine SL.W.buildSlice ?_; intro b) | (refine SL.W.append ?_; intro a cap) | refine SL.W.bytesToStr ?_ | (refine SL.W.makeSlice ?_; intro b) | refine SL.W.lookupOk ?_ | refine SL.W.lookup ?_ | (refine SL.W.makeMap ?_; intro b) | refine SL.W.mapUpdate ?_ | (refine SL.W.mapEntry ?_; intro stamp) | refine SL.W.entryStore ?_ | (refine SL.W.range ?_; intro it) | refine SL.W.delete ?_ | (refine SL.W.guardP (fun h => ?_) (fun h => ?_) <;> (fail_if_success (have : h = trivial := rfl)) <;> (fail_if_success (have : h = not_false := rfl)) <;> first | contradiction | (exfalso; omega) | (exfalso; revert h; simp; done) | skip) | (refine SL.W.guardB (fun h => ?_) (fun h => ?_) <;> (fail_if_success (have : h = (rfl : true = true) := rfl)) <;> (fail_if_success (have : h = (rfl : false = false) := rfl))))) | (refine SL.TK.is ?_; first | (refine SL.TK.weakD (by first | ((repeat (first | exact SL.Sub.nil | refine SL.Sub.cons (by rfl) (by first | rfl | exact SL.int_eq (by omega)) ?_)); done) | fail) ?_ hK.out; exact EntD.cons (by first | ((repeat (first | exact SL.Pick.head | apply SL.Pick.tail)); done) | fail) (EntD.drop2 (by first | ((repeat (first | exact SL.Pick.head | apply SL.Pick.tail)); done) | fail) (by first | ((repeat (first | exact SL.Pick.head | apply SL.Pick.tail)); done) | fail))) | refine SL.TK.seq ?_ | refine SL.TK.region ?_ | refine SL.TK.regionD SL.mixed (by simp only [SL.falses] <;> rfl) ?_ | refine SL.TK.block ?_ | refine SL.TK.inBlock ?_ | refine SL.TK.skip ?_ | refine SL.TK.scope ?_ | refine SL.TK.inScope ?_ | refine SL.TK.label ?_ | refine SL.W.exit ?_ | refine SL.W.condT ?_ | refine SL.W.condF ?_ | (refine SL.W.condP (fun h => ?_) (fun h => ?_) <;> (fail_if_success (have : h = trivial := rfl)) <;> (fail_if_success (have : h = not_false := rfl)) <;> first | contradiction | (exfalso; omega) | (exfalso; revert h; simp; done) | skip) | refine SL.W.condB (fun h => ?_) (fun h => ?_)) | (refine SL.TD.is ?_; first | (refine SL.W.dfin ?_; simp only [List.append_nil, List.cons_append, List.nil_append]) | refine SL.W.dpass ?_ | refine SL.W.dpure ?_ | refine SL.W.dload ?_ | refine SL.W.dloadA ?_ | refine SL.W.dfrz ?_ | (refine SL.W.dthaw ?_; simp only [List.append_nil, List.cons_append, List.nil_append]) | (refine SL.W.dguardP (fun h => ?_) (fun h => ?_) <;> (fail_if_success (have : h = trivial := rfl)) <;> (fail_if_success (have : h = not_false := rfl)) <;> first | contradiction | (exfalso; omega) | (exfalso; revert h; simp; done) | skip) | (refine SL.W.dguardB (fun h => ?_) (fun h => ?_) <;> (fail_if_success (have : h = (rfl : true = true) := rfl)) <;> (fail_if_success (have : h = (rfl : false = false) := rfl))) | refine SL.W.done ?_ | refine SL.W.dtwo ?_ ?_ | refine SL.W.dthree ?_ ?_ ?_))

theorem flt_lt {S : List (Int × Value)} {done : List Int} {q : Int} {v : Value} (h : (q, v) ∈ S) (hn : q ∉ done) :
    S.countP (fun p => !(q :: done).contains p.1) < S.countP (fun p => !done.contains p.1) := by
  have mono : ∀ S : List (Int × Value), S.countP (fun p => !(q :: done).contains p.1) ≤ S.countP (fun p => !done.contains p.1) := fun S =>
    List.countP_mono_left fun x _ hx => by
      simp only [List.contains_cons, Bool.not_or, Bool.and_eq_true] at hx
      exact hx.2
  induction S with
  | nil => simp at h
  | cons p S ih =>
    rw [List.countP_cons, List.countP_cons]
    rcases List.mem_cons.1 h with h | h
    · subst h
      have := mono S
      simp [hn]
      simp at this
      omega
    · have := ih h
      have h1 : (if (!(q :: done).contains p.1) = true then 1 else 0) ≤ (if (!done.contains p.1) = true then 1 else 0) := by
        by_cases hd : done.contains p.1 = true
        · have : (q :: done).contains p.1 = true := by rw [List.contains_cons, hd]; simp
          rw [hd, this]
          simp
        · have hd' : done.contains p.1 = false := by simpa using hd
          rw [hd']
          split <;> simp
      omega
def chkInv (mb nowb it : Nat) (S N : List (Int × Value)) (R : List HProp) (E : Env) (ρ : Env) (L : List HProp) (m : Nat) : Prop := ∃ done : List Int, m = S.countP (fun p => !done.contains p.1) ∧
  ρ = (164, .pointer (some ⟨it, 0, none⟩)) :: (11, .map (some nowb)) :: E ∧ L = mpI (Value.int .u8) mb S (some (it, done)) :: mp (Value.int .u8) nowb N :: R
theorem keeps_check {post : Post} {k : List Item} (mb nowb it : Nat) (S N : List (Int × Value)) (cs : List UInt8) (R : List HProp) (v3 v4 v18 v19 v20 : Value) (hv : Hid (∀ q v, (q, v) ∈ S → v = .int .i64 (cntI cs q))) (hN : Hid (CntOk N cs))
    (hk : TK Try.prog 3 Try.f3.ntmps post k [(3, v3), (4, v4), (18, v18), (19, v19), (20, v20)] (mp (Value.int .u8) mb S :: R)) :
    TK Try.prog 3 Try.f3.ntmps post (.code (loopAt Try.f3 2) :: k) [(164, .pointer (some ⟨it, 0, none⟩)), (11, .map (some nowb)), (3, v3), (4, v4), (18, v18), (19, v19), (20, v20)]
      (mpI (Value.int .u8) mb S (some (it, [])) :: mp (Value.int .u8) nowb N :: R) := by
  refine SL.TK.block ?_
  refine SL.TK.loopD (chkInv mb nowb it S N R [(3, v3), (4, v4), (18, v18), (19, v19), (20, v20)]) ?_ ⟨[], rfl, rfl, rfl⟩ (by first | ((repeat (first | exact SL.Sub.nil | refine SL.Sub.cons (by rfl) (by first | rfl | exact SL.int_eq (by omega)) ?_)); done) | fail) EntD.refl
  rintro ρ L m ⟨done, rfl, rfl, rfl⟩ ih
  have hK := Lib.hid hk
  clear hk
  repeat' (first | (refine SL.TO.is ?_; first | (refine SL.W.next (fun hend => ?_) (fun q v hqv hqd => ?_); rotate_left; obtain rfl : v = .int .i64 (cntI cs q) := hv.out q v hqv; rotate_left) | refine SL.W.entry ?_ | (refine SL.TO.door (o := ⟨_, .lookup _ _ _ _, _, _, _, _⟩) ?_; first | (refine SL.W.lookup ?_; refine SL.TO.slot (d := 172) (by rfl) (v' := .int .i64 (cntI cs _)) (hN.out _) ?_)) | refine SL.TO.nil ?_ | (refine SL.TO.nilD ?_; simp only [SL.setB]) | refine SL.W.pass ?_ | refine SL.W.pass0 ?_ | (refine SL.W.pure ?_; first | refine SL.W.pv ?_ | refine SL.W.pv0 ?_ | refine SL.W.lenMp ?_ | (refine SL.W.guardP (fun h => ?_) (fun h => ?_) <;> (fail_if_success (have : h = trivial := rfl)) <;> (fail_if_success (have : h = not_false := rfl)) <;> first | contradiction | (exfalso; omega) | (exfalso; revert h; simp; done) | skip) | (refine SL.W.guardB (fun h => ?_) (fun h => ?_) <;> (fail_if_success (have : h = (rfl : true = true) := rfl)) <;> (fail_if_success (have : h = (rfl : false = false) := rfl)))) | (refine SL.W.loud ?_; first | refine SL.W.load ?_ | refine SL.W.loadA ?_ | refine SL.W.store ?_ | refine SL.W.storeA ?_ | (refine SL.W.box ?_; intro b) | (refine SL.W.alloc ?_; intro b) | (refine SL.W.buildSlice ?_; intro b) | (refine SL.W.append ?_; intro a cap) | refine SL.W.bytesToStr ?_ | (refine SL.W.makeSlice ?_; intro b) | refine SL.W.lookupOk ?_ | refine SL.W.lookup ?_ | (refine SL.W.makeMap ?_; intro b) | refine SL.W.mapUpdate ?_ | (refine SL.W.mapEntry ?_; intro stamp) | refine SL.W.entryStore ?_ | (refine SL.W.range ?_; intro it) | refine SL.W.delete ?_ | (refine SL.W.guardP (fun h => ?_) (fun h => ?_) <;> (fail_if_success (have : h = trivial := rfl)) <;> (fail_if_success (have : h = not_false := rfl)) <;> first | contradiction | (exfalso; omega) | (exfalso; revert h; simp; done) | skip) | (refine SL.W.guardB (fun h => ?_) (fun h => ?_) <;> (fail_if_success (have : h = (rfl : true = true) := rfl)) <;> (fail_if_success (have : h = (rfl : false = false) := rfl))))) | (refine SL.TK.is ?_; first | (refine SL.TK.weakD (by first | ((repeat (first | exact SL.Sub.nil | refine SL.Sub.cons (by rfl) (by first | rfl | exact SL.int_eq (by omega)) ?_)); done) | fail) ?_ hK.out; exact EntD.trans mpI_done (EntD.cons (by first | ((repeat (first | exact SL.Pick.head | apply SL.Pick.tail)); done) | fail) (EntD.drop1 (by first | ((repeat (first | exact SL.Pick.head | apply SL.Pick.tail)); done) | fail)))) | refine SL.TK.seq ?_ | refine SL.TK.region ?_ | refine SL.TK.regionD SL.mixed (by simp only [SL.falses] <;> rfl) ?_ | refine SL.TK.block ?_ | refine SL.TK.inBlock ?_ | refine SL.TK.skip ?_ | refine SL.TK.scope ?_ | refine SL.TK.inScope ?_ | refine SL.TK.label ?_ | refine SL.W.exit ?_ | refine SL.W.condT ?_ | refine SL.W.condF ?_ | (refine SL.W.condP (fun h => ?_) (fun h => ?_) <;> (fail_if_success (have : h = trivial := rfl)) <;> (fail_if_success (have : h = not_false := rfl)) <;> first | contradiction | (exfalso; omega) | (exfalso; revert h; simp; done) | skip) | refine SL.W.condB (fun h => ?_) (fun h => ?_)) | (refine SL.TD.is ?_; first | (refine SL.W.dfin ?_; simp only [List.append_nil, List.cons_append, List.nil_append]) | refine SL.W.dpass ?_ | refine SL.W.dpure ?_ | refine SL.W.dload ?_ | refine SL.W.dloadA ?_ | refine SL.W.dfrz ?_ | (refine SL.W.dthaw ?_; simp only [List.append_nil, List.cons_append, List.nil_append]) | (refine SL.W.dguardP (fun h => ?_) (fun h => ?_) <;> (fail_if_success (have : h = trivial := rfl)) <;> (fail_if_success (have : h = not_false := rfl)) <;> first | contradiction | (exfalso; omega) | (exfalso; revert h; simp; done) | skip) | (refine SL.W.dguardB (fun h => ?_) (fun h => ?_) <;> (fail_if_success (have : h = (rfl : true = true) := rfl)) <;> (fail_if_success (have : h = (rfl : false = false) := rfl))) | refine SL.W.done ?_ | refine SL.W.dtwo ?_ ?_ | refine SL.W.dthree ?_ ?_ ?_))
  exact SL.TK.againD ih ⟨q :: done, rfl, rfl, rfl⟩ (by first | ((repeat (first | exact SL.Sub.nil | refine SL.Sub.cons (by rfl) (by first | rfl | exact SL.int_eq (by omega)) ?_)); done) | fail) EntD.refl (flt_lt hqv hqd)
end SL
