/-
  Literals of bytes; the law's own test: awake.
-/
import Derived.Test.YtmnolaklpihmnaaOn10
set_option linter.unusedVariables false
set_option linter.unusedSimpArgs false
set_option maxRecDepth 10000
namespace SL
open Go Go.Proofs Go.RowKit
theorem modify_set {α : Type} (a : Array α) (i : Nat) (f : α → α) (x : α) (h : a[i]? = some x) : a.modify i f = a.setIfInBounds i (f x) := by
  apply Array.ext
  · simp
  · intro j h1 h2
    rw [Array.getElem_modify, Array.getElem_setIfInBounds]
    split
    · rename_i e
      subst e
      have hi : i < a.size := by simpa using h1
      rw [Array.getElem?_eq_getElem hi] at h
      cases h
      rfl
    · rfl
section
variable {P : Program} {fid : Fm} {n : Nat} {post : Post} {k : List Item} {ρ : Env} {L r : List HProp} {ops rest : List Oper} {ty : TypeId} {pos : String} {af : Array Edge} {g : Option (Nat × Bool)} {sf : Option (List Bool × List HProp)} {d : Nat}
/-- a literal of bytes: its block is only read from now on -/
theorem TO.bytesLit {x : Operand} {t e by_ b m cap : Nat} {cs : List Value} [hs : TSl P t e 1 by_] (hu : P.underlying e = some (.int .u8)) (hw : wants ops ρ g = some true) (hd : Nat.blt d n = true)
    (hx : ev ρ x = some (.slice (some ⟨b, 0, none⟩) m cap)) (hp : Pick L (own e 1 (some ⟨b, 0, none⟩) m cap cs) r)
    (h : ∀ G, RdG G (some ⟨b, 0, none⟩) cs → TO P fid n post ops rest sf k ((d, .slice (some ⟨b, 0, none⟩) m cap) :: ρ) (RO G :: r)) :
    TO P fid n post ops (⟨some d, .convert t t x, ty, pos, af, g⟩ :: rest) sf k ρ L :=
  TO.val hw hd fun w0 F act w gr st => by
    rcases st.owned (P := P) hp with ⟨h1, _⟩ | ⟨b', extra, h1, e1, e2, e3, s'⟩
    · cases h1
    · cases h1
      have hr := s'.read Pick.head
      have hlt : b < w.heap.size := (Array.getElem?_eq_some_iff.1 hr).1
      obtain ⟨N, hN⟩ : ∃ N, N = (cs ++ extra).toArray.size := ⟨_, rfl⟩
      let o' : Obj := .cells (cs ++ extra).toArray e (N, N + 1)
      let G : Hp := fun b' => if b' = b then some o' else none
      have hsh : w.shape? b = some (e, N) := by unfold World.shape?; rw [hr, hN]
      have hfz : w.freeze ⟨b, N, none⟩ 1 = { w with heap := w.heap.setIfInBounds b o' } := by
        unfold World.freeze
        rw [if_neg (by decide)]
        rw [modify_set _ _ _ _ hr]
        rfl
      have hst := s'.write (o' := o') Pick.head
      refine ⟨.slice (some ⟨b, 0, none⟩) m cap, RO G :: r, { w with heap := w.heap.setIfInBounds b o' }, ?_, hst.map (fun hp x => sep_mono (fun h1 y => ?_) (fun _ x => x) x), h G ⟨fun c => (by cases c), fun q hq j x hx => ?_⟩⟩
      · simp [execOp, gr.eval hx, convert, run_und hs.und, run_und hu, markStringish, hsh]
        exact hfz
      · show h1 = G
        funext b'
        exact y b'
      · cases hq
        have ha : (⟨b, 0, none⟩ : Addr).add j = ⟨b, j, none⟩ := by unfold Addr.add; split <;> simp_all
        have hlj : j < cs.length := (List.getElem?_eq_some_iff.1 hx).1
        unfold cellG
        rw [ha]
        simp only [G, o']
        have : (cs ++ extra)[j]? = some x := by rw [List.getElem?_append_left hlj]; exact hx
        simpa using this
end
section
variable {P : Program} {n : Nat} {ρ : Env} {ty : TypeId} {pos : String} {af : Array Edge} {g : Option (Nat × Bool)}
theorem PV.eqStrT {dst : Option Nat} {x y : Operand} {a b : ByteArray} {t u : TypeId} (hx : ev ρ x = some (.string a)) (hy : ev ρ y = some (.string b)) (h : a = b) :
    PV P n ρ ⟨dst, .binOp .eql t x y u, ty, pos, af, g⟩ (.bool true) := by
  have := PV.eqStr (P := P) (n := n) (dst := dst) (t := t) (u := u) (ty := ty) (pos := pos) (af := af) (g := g) hx hy
  subst h
  simpa using this
end
attribute [local irreducible] SL.TK SL.TO SL.TD SL.PV SL.Pick SL.Frm SL.Ent SL.Sub SL.EvAll SL.seps SL.sep SL.Cut SL.PutAt SL.blk SL.EvP SL.Fill SL.Src SL.EntD SL.own SL.ex SL.fact SL.orig
def T1 : OT := [(5, (1, [97]))]
def T2 : OT := [(5, (3, [98]))]
theorem T1ok : TOk T1 := ⟨by simp [T1, ORise], by simp [T1], by simp [T1]⟩
theorem T2ok : TOk T2 := ⟨by simp [T2, ORise], by simp [T2], by simp [T2]⟩
theorem aw_set1 (G : Hp) (b : Nat) (hg : RdG G (some ⟨b, 0, none⟩) [.int .u8 97]) (tb : Nat) : Spec Try.prog 12 [.pointer (some ⟨tb, 0, none⟩), .int .u32 5, .int .u64 1, .slice (some ⟨b, 0, none⟩) 1 1] [TbAt tb [], RO G] (fun r L => r = .int .i64 0 ∧ L = [TbAt tb T1, RO G]) :=
  tSet_spec (X := RO G) (cap := 1) (x := [97]) (RdB.ro hg) (by simp) tb [] TOk.nil 5 1
theorem aw_set2 (G : Hp) (b : Nat) (hg : RdG G (some ⟨b, 0, none⟩) [.int .u8 98]) (tb : Nat) : Spec Try.prog 12 [.pointer (some ⟨tb, 0, none⟩), .int .u32 5, .int .u64 3, .slice (some ⟨b, 0, none⟩) 1 1] [TbAt tb T1, RO G] (fun r L => r = .int .i64 0 ∧ L = [TbAt tb T2, RO G]) :=
  tSet_spec (X := RO G) (cap := 1) (x := [98]) (RdB.ro hg) (by simp) tb T1 T1ok 5 3
theorem aw_set3 (G : Hp) (b : Nat) (hg : RdG G (some ⟨b, 0, none⟩) [.int .u8 99]) (tb : Nat) : Spec Try.prog 12 [.pointer (some ⟨tb, 0, none⟩), .int .u32 5, .int .u64 3, .slice (some ⟨b, 0, none⟩) 1 1] [TbAt tb T2, RO G] (fun r L => r = .int .i64 37 ∧ L = [TbAt tb T2, RO G]) :=
  tSet_spec (X := RO G) (cap := 1) (x := [99]) (RdB.ro hg) (by simp) tb T2 T2ok 5 3
theorem aw_ask1 (tb : Nat) : Spec Try.prog 10 [.pointer (some ⟨tb, 0, none⟩), .int .u32 5, .int .u64 1] [TbAt tb T1]
    (fun r L => ∃ a c, r = .tuple #[.int .i64 1, .slice a 1 c, .int .i64 0] ∧ (a = none → ([97] : List UInt8) = []) ∧ L = [TbAt tb T1, own 5 1 a 1 c (([97] : List UInt8).map byteV)]) := tAsk_spec tb T1 T1ok 5 1
theorem aw_ask2 (tb : Nat) : Spec Try.prog 10 [.pointer (some ⟨tb, 0, none⟩), .int .u32 5, .int .u64 2] [TbAt tb T1]
    (fun r L => ∃ a c, r = .tuple #[.int .i64 0, .slice a 0 c, .int .i64 0] ∧ (a = none → ([] : List UInt8) = []) ∧ L = [TbAt tb T1, own 5 1 a 0 c []]) := tAsk_spec tb T1 T1ok 5 2
theorem aw_ask3 (tb : Nat) : Spec Try.prog 10 [.pointer (some ⟨tb, 0, none⟩), .int .u32 5, .int .u64 0] [TbAt tb T1]
    (fun r L => ∃ a c, r = .tuple #[.int .i64 0, .slice a 0 c, .int .i64 1] ∧ (a = none → ([] : List UInt8) = []) ∧ L = [TbAt tb T1, own 5 1 a 0 c []]) := tAsk_spec tb T1 T1ok 5 0
theorem aw_ask4 (tb : Nat) : Spec Try.prog 10 [.pointer (some ⟨tb, 0, none⟩), .int .u32 5, .int .u64 2] [TbAt tb T2]
    (fun r L => ∃ a c, r = .tuple #[.int .i64 2, .slice a 0 c, .int .i64 0] ∧ (a = none → ([] : List UInt8) = []) ∧ L = [TbAt tb T2, own 5 1 a 0 c []]) := tAsk_spec tb T2 T2ok 5 2
set_option maxHeartbeats 2000000 in
theorem onAwake_spec : Spec Try.prog 15 [] [] (fun r L => r = .bool true ∧ L = []) := by
  have hnew := Lib.hid tNew_spec
  have s1 := Lib.hid aw_set1
  have s2 := Lib.hid aw_set2
  have s3 := Lib.hid aw_set3
  have k1 := Lib.hid aw_ask1
  have k2 := Lib.hid aw_ask2
  have k3 := Lib.hid aw_ask3
  have k4 := Lib.hid aw_ask4
  obtain ⟨S1, hS1⟩ : ∃ S, S = T1 := ⟨_, rfl⟩
  obtain ⟨S2, hS2⟩ : ∃ S, S = T2 := ⟨_, rfl⟩
  rw [← hS1] at s1 s2 k1 k2 k3
  rw [← hS2] at s2 s3 k4
  clear hS1 hS2
  refine SL.Spec.of_TK Go.Proofs.Try.func15 rfl rfl SL.call15 rfl ?_
  repeat' (first | (refine SL.TO.is ?_; first | (refine SL.TO.door (o := ⟨_, .call ⟨.value (.func 8), _, _⟩, _, _, _, _⟩) ?_; first | (refine SL.W.call (hnew.out) ?_; rintro _ _ ⟨tb, rfl, rfl⟩; try simp only [List.cons_append, List.nil_append])) | (refine SL.TO.door (o := ⟨_, .convert _ _ _, _, _, _, _⟩) ?_; first | (refine SL.TO.bytesLit (by rfl) (by rfl) (by rfl) (by rfl) (by first | ((repeat (first | exact SL.Pick.head | apply SL.Pick.tail)); done) | fail) ?_; intro G hg)) | (refine SL.TO.door (o := ⟨_, .call ⟨.value (.func 12), _, _⟩, _, _, _, _⟩) ?_; first | (first | (refine SL.W.call (s1.out _ _ hg _) ?_; rintro _ _ ⟨rfl, rfl⟩; try simp only [List.cons_append, List.nil_append]) | (refine SL.W.call (s2.out _ _ hg _) ?_; rintro _ _ ⟨rfl, rfl⟩; try simp only [List.cons_append, List.nil_append]) | (refine SL.W.call (s3.out _ _ hg _) ?_; rintro _ _ ⟨rfl, rfl⟩; try simp only [List.cons_append, List.nil_append]))) | (refine SL.TO.door (o := ⟨_, .call ⟨.value (.func 10), _, _⟩, _, _, _, _⟩) ?_; first | (first | (refine SL.W.call (k1.out _) ?_; rintro _ _ ⟨a1, c1, rfl, ha1, rfl⟩; try simp only [List.cons_append, List.nil_append]) | (refine SL.W.call (k2.out _) ?_; rintro _ _ ⟨a2, c2, rfl, ha2, rfl⟩; try simp only [List.cons_append, List.nil_append]) | (refine SL.W.call (k3.out _) ?_; rintro _ _ ⟨a3, c3, rfl, ha3, rfl⟩; try simp only [List.cons_append, List.nil_append]) | (refine SL.W.call (k4.out _) ?_; rintro _ _ ⟨a4, c4, rfl, ha4, rfl⟩; try simp only [List.cons_append, List.nil_append]))) | refine SL.TO.nil ?_ | (refine SL.TO.nilD ?_; simp only [SL.setB]) | refine SL.W.pass ?_ | refine SL.W.pass0 ?_ | (refine SL.W.pure ?_; first | (refine SL.TO.door (o := ⟨_, .binOp .eql _ _ _ _, _, _, _, _⟩) ?_; refine SL.W.pvn (SL.PV.eqStrT (by rfl) (by rfl) (by rfl)) ?_) | refine SL.W.pv ?_ | refine SL.W.pv0 ?_ | refine SL.W.lenMp ?_) | (refine SL.W.loud ?_; first | refine SL.W.load ?_ | refine SL.W.loadA ?_ | refine SL.W.store ?_ | refine SL.W.storeA ?_ | (refine SL.W.box ?_; intro b) | (refine SL.W.alloc ?_; intro b) | (refine SL.W.buildSlice ?_; intro b) | (refine SL.W.append ?_; intro a cap) | refine SL.W.bytesToStr ?_ | refine SL.W.pvn (SL.PV.toIntC (by rfl) (by first | exact SL.wrap_i64 (by omega) | exact SL.wrap_u8 (by omega) | exact SL.wrap_u32 (by omega) | exact SL.wrap_u64 (by omega) | rfl)) ?_ | (refine SL.W.makeSlice ?_; intro b) | refine SL.W.lookupOk ?_ | refine SL.W.lookup ?_ | (refine SL.W.makeMap ?_; intro b) | refine SL.W.mapUpdate ?_ | (refine SL.W.mapEntry ?_; intro stamp) | refine SL.W.entryStore ?_ | (refine SL.W.range ?_; intro it) | refine SL.W.delete ?_) | (refine SL.W.guardP (fun h => ?_) (fun h => ?_) <;> (fail_if_success (have : h = trivial := rfl)) <;> (fail_if_success (have : h = not_false := rfl)) <;> first | contradiction | (exfalso; omega) | (exfalso; revert h; simp; done) | skip) | (refine SL.W.guardB (fun h => ?_) (fun h => ?_) <;> (fail_if_success (have : h = (rfl : true = true) := rfl)) <;> (fail_if_success (have : h = (rfl : false = false) := rfl)))) | (refine SL.TK.is ?_; first | refine SL.TK.seq ?_ | refine SL.TK.region ?_ | refine SL.TK.regionD SL.mixed (by simp only [SL.falses] <;> rfl) ?_ | refine SL.TK.block ?_ | refine SL.TK.inBlock ?_ | refine SL.TK.skip ?_ | refine SL.TK.scope ?_ | refine SL.TK.inScope ?_ | refine SL.TK.label ?_ | refine SL.W.exit ?_ | refine SL.W.condT ?_ | refine SL.W.condF ?_ | (refine SL.W.condP (fun h => ?_) (fun h => ?_) <;> (fail_if_success (have : h = trivial := rfl)) <;> (fail_if_success (have : h = not_false := rfl)) <;> first | contradiction | (exfalso; omega) | (exfalso; revert h; simp; done) | skip) | refine SL.W.condB (fun h => ?_) (fun h => ?_)) | (refine SL.TD.is ?_; first | (refine SL.W.dfin ?_; simp only [List.append_nil, List.cons_append, List.nil_append]) | refine SL.W.dpass ?_ | refine SL.W.dpure ?_ | refine SL.W.dload ?_ | refine SL.W.dloadA ?_ | refine SL.W.dfrz ?_ | (refine SL.W.dthaw ?_; simp only [List.append_nil, List.cons_append, List.nil_append]) | (refine SL.W.dguardP (fun h => ?_) (fun h => ?_) <;> (fail_if_success (have : h = trivial := rfl)) <;> (fail_if_success (have : h = not_false := rfl)) <;> first | contradiction | (exfalso; omega) | (exfalso; revert h; simp; done) | skip) | (refine SL.W.dguardB (fun h => ?_) (fun h => ?_) <;> (fail_if_success (have : h = (rfl : true = true) := rfl)) <;> (fail_if_success (have : h = (rfl : false = false) := rfl))) | refine SL.W.done ?_ | refine SL.W.dtwo ?_ ?_ | refine SL.W.dthree ?_ ?_ ?_))
  all_goals exact SL.TK.retD Try.func15 (SL.Res.one rfl (by rfl)) ⟨rfl, rfl⟩ EntD.nil
end SL
