/-
  Chapter 29: NetPlays: the loop that holds what All tells against the document's frames.
-/
import Derived.Test.YtidogcbcknpdiaaNet26
set_option linter.unusedVariables false
set_option linter.unusedSimpArgs false
set_option maxRecDepth 10000
namespace SL
open Go Go.Proofs Go.RowKit

theorem toL_append (c : Bool) (n : Int) : ∀ (a b : List Fr) (i : Nat), toL c n (a ++ b) i = toL c n a i ++ toL c n b (i + a.length)
  | [], b, i => by simp [toL]
  | f :: a, b, i => by
    have e : i + 1 + a.length = i + (a.length + 1) := by omega
    simp only [List.cons_append, toL, toL_append c n a b (i + 1), List.length_cons, e]
    split <;> simp
theorem toL_at {c : Bool} {n : Int} {l : List Fr} {k : Nat} {f : Fr} (hk : l[k]? = some f) (ht : isTo c n f = true) :
    (toL c n l 0)[(toL c n (l.take k) 0).length]? = some (k : Int) ∧ (toL c n (l.take (k + 1)) 0) = toL c n (l.take k) 0 ++ [(k : Int)] := by
  have hlt : k < l.length := (List.getElem?_eq_some_iff.1 hk).1
  have hlen : (l.take k).length = k := by rw [List.length_take]; omega
  have hd : l.drop k = f :: l.drop (k + 1) := by rw [List.drop_eq_getElem_cons hlt, (List.getElem?_eq_some_iff.1 hk).2]
  refine ⟨?_, ?_⟩
  · have e : toL c n l 0 = toL c n (l.take k) 0 ++ toL c n (l.drop k) k := by
      have := toL_append c n (l.take k) (l.drop k) 0
      rwa [List.take_append_drop, hlen, Nat.zero_add] at this
    rw [e, hd, List.getElem?_append_right (Nat.le_refl _)]
    simp [toL, ht]
  · rw [List.take_add_one, hk]
    show toL c n (l.take k ++ [f]) 0 = _
    rw [toL_append, hlen]
    simp [toL, ht]
theorem toL_not {c : Bool} {n : Int} {l : List Fr} {k : Nat} {f : Fr} (hk : l[k]? = some f) (ht : isTo c n f = false) : (toL c n (l.take (k + 1)) 0) = toL c n (l.take k) 0 := by
  rw [List.take_add_one, hk]
  show toL c n (l.take k ++ [f]) 0 = _
  rw [toL_append]
  simp [toL, ht]
theorem toL_take_le (c : Bool) (n : Int) (l : List Fr) (k : Nat) : (toL c n (l.take k) 0).length ≤ (toL c n l 0).length := by
  conv => rhs; rw [← List.take_append_drop k l, toL_append]
  rw [List.length_append]
  omega
theorem cellsP_set2 {f f' : Fr} {s : Option Addr × Nat} {fs : Frs} {k : Nat} (he : frV f' s = frV f s) (h : fs[k]? = some (f, s)) : cellsP (fs.set k (f', s)) = cellsP fs := cellsP_set he h
attribute [local irreducible] SL.TK SL.TO SL.TD SL.PV SL.Pick SL.Frm SL.Ent SL.Sub SL.EvAll SL.seps SL.sep SL.Cut SL.PutAt SL.blk SL.EvP SL.Fill SL.Src SL.EntD SL.own SL.ex SL.fact SL.orig

structure ChkSt (l : List Fr) (k : Nat) (fs : Frs) : Prop where
  len : fs.length = l.length
  rest : ∀ j, k ≤ j → (fs[j]?).map (·.1) = l[j]?
theorem ChkSt.step {l : List Fr} {k : Nat} {fs : Frs} {x : Fr × (Option Addr × Nat)} (h : ChkSt l k fs) : ChkSt l (k + 1) (fs.set k x) :=
  ⟨by rw [List.length_set, h.len], fun j hj => by rw [List.getElem?_set_ne (by omega)]; exact h.rest j (by omega)⟩
def chk3Inv (al at' ra : Option Addr) (cl ct rc rb ab nt : Nat) (what kk bit : Int) (F : Fr) (sF : Option Addr × Nat) (l : List Fr) (gs : Frs) (R : List HProp) (E : Env) (ρ : Env) (L : List HProp) (q : Nat) : Prop := ∃ (k N : Nat) (fs : Frs), k ≤ l.length ∧ ChkSt l k fs ∧ N = (toL F.c2 F.n2 (l.take k) 0).length ∧
  ρ = (185, .int .i64 k) :: (184, .int .i64 l.length) :: (20, .int .i64 N) :: (18, .slice al l.length cl) :: (19, .slice at' nt ct) :: (4, .pointer (some ⟨rb, 0, none⟩)) :: (6, .pointer (some ⟨ab, 0, none⟩)) :: E ∧
  L = own 31 5 al l.length cl (cellsP fs) :: seps (framesP fs) :: own 3 1 at' nt ct ((toL F.c2 F.n2 l 0).map intV) :: SL.blk rb 50 [.slice ra l.length rc] :: own 53 5 ra l.length rc (cellsP gs) :: seps (framesP gs) :: SL.blk ab 33 (actV ⟨what, kk, bit, F, sF⟩) :: R ∧ q = l.length - k
set_option maxHeartbeats 2000000 in
theorem plays_check {post : Post} {k : List Item} (al at' ra : Option Addr) (cl ct rc rb ab nt : Nat)  (what kk bit : Int) (F : Fr) (sF : Option Addr × Nat) (l : List Fr) (R : List HProp) (v3 v26 v27 v28 : Value) (hl : l.length ≤ 100) (hw : ∀ f ∈ l, f.bs.length ≤ 200) (hnt : nt = (toL F.c2 F.n2 l 0).length) (gs : Frs) (hG : Hid (gs.map (·.1) = l))
    (hk : TK Try.prog 5 Try.f5.ntmps post k [(19, .slice at' nt ct), (20, .int .i64 nt), (3, v3), (4, .pointer (some ⟨rb, 0, none⟩)), (26, v26), (27, v27), (28, v28)] (RefAt rb l :: R)) :
    TK Try.prog 5 Try.f5.ntmps post (.code (loopAt Try.f5 2) :: k) [(185, .int .i64 0), (184, .int .i64 l.length), (20, .int .i64 0), (18, .slice al l.length cl), (19, .slice at' nt ct), (4, .pointer (some ⟨rb, 0, none⟩)), (6, .pointer (some ⟨ab, 0, none⟩)), (3, v3), (26, v26), (27, v27), (28, v28)]
      (FrSl al cl l :: own 3 1 at' nt ct ((toL F.c2 F.n2 l 0).map intV) :: SL.blk rb 50 [.slice ra l.length rc] :: own 53 5 ra l.length rc (cellsP gs) :: seps (framesP gs) :: SL.blk ab 33 (actV ⟨what, kk, bit, F, sF⟩) :: R) := by
  refine SL.TK.openFr (by first | ((repeat (first | exact SL.Pick.head | apply SL.Pick.tail)); done) | fail) (fun fs0 hfs0 => ?_)
  have hGl : gs.length = l.length := by rw [← hG.out, List.length_map]
  refine SL.TK.block ?_
  have hK := Lib.hid hk
  clear hk
  have hst0 : ChkSt l 0 fs0 := ⟨by rw [← hfs0, List.length_map], fun j _ => by rw [← hfs0, List.getElem?_map]⟩
  clear hfs0
  refine SL.TK.loopD (chk3Inv al at' ra cl ct rc rb ab nt what kk bit F sF l gs R [(3, v3), (26, v26), (27, v27), (28, v28)]) ?_ ⟨0, 0, fs0, Nat.zero_le _, hst0, by simp [toL], rfl, rfl, rfl⟩ (by first | ((repeat (first | exact SL.Sub.nil | refine SL.Sub.cons (by rfl) (by first | rfl | exact SL.int_eq (by omega)) ?_)); done) | fail) ?_
  rotate_left
  · exact EntD.cons (by first | ((repeat (first | exact SL.Pick.head | apply SL.Pick.tail)); done) | fail) (EntD.cons (by first | ((repeat (first | exact SL.Pick.head | apply SL.Pick.tail)); done) | fail) (EntD.cons (by first | ((repeat (first | exact SL.Pick.head | apply SL.Pick.tail)); done) | fail) (EntD.cons (by first | ((repeat (first | exact SL.Pick.head | apply SL.Pick.tail)); done) | fail) (EntD.cons (by first | ((repeat (first | exact SL.Pick.head | apply SL.Pick.tail)); done) | fail) (EntD.cons (by first | ((repeat (first | exact SL.Pick.head | apply SL.Pick.tail)); done) | fail) (EntD.cons (by first | ((repeat (first | exact SL.Pick.head | apply SL.Pick.tail)); done) | fail) EntD.refl))))))
  clear hst0 fs0
  rintro ρ L q ⟨j, N, fs, hj, hst, hN, rfl, rfl, rfl⟩ ih
  by_cases hlt : j < l.length
  · obtain ⟨f, hfl⟩ : ∃ f, l[j]? = some f := ⟨l[j], List.getElem?_eq_getElem hlt⟩
    have hfb : f.bs.length ≤ 200 := hw f (List.mem_of_getElem? hfl)
    obtain ⟨p, hp⟩ : ∃ p, fs[j]? = some p := ⟨fs[j]'(by have := hst.len; omega), List.getElem?_eq_getElem _⟩
    obtain ⟨f', s⟩ := p
    have hf : f' = f := by
      have := hst.rest j (Nat.le_refl _)
      rw [hp, hfl] at this
      simpa using this
    subst hf
    obtain ⟨g, hg⟩ : ∃ g, gs[j]? = some g := ⟨gs[j]'(by omega), List.getElem?_eq_getElem _⟩
    obtain ⟨g', t⟩ := g
    have hf : g' = f' := by
      have h1 : (gs.map (·.1))[j]? = some g' := by rw [List.getElem?_map, hg]; rfl
      rw [hG.out, hfl] at h1
      simpa using h1.symm
    subst hf
    have hStH := Lib.hid hst
    have hfsl := hst.len
    clear hst
    refine SL.TK.ownPos (e := 31) (sz := 5) (a := al) (by first | ((repeat (first | exact SL.Pick.head | apply SL.Pick.tail)); done) | fail) (by omega) (fun b0 extra ea e1 e2 e3 => ?_)
    subst ea
    refine SL.TK.ownPos (e := 53) (sz := 5) (a := ra) (by first | ((repeat (first | exact SL.Pick.head | apply SL.Pick.tail)); done) | fail) (by omega) (fun b1 extra1 ea e4 e5 e6 => ?_)
    subst ea
    refine SL.TK.pickFr (fs := fs) (by first | ((repeat (first | exact SL.Pick.head | apply SL.Pick.tail)); done) | fail) hp ?_
    refine SL.TK.pickFr (fs := gs) (by first | ((repeat (first | exact SL.Pick.head | apply SL.Pick.tail)); done) | fail) hg ?_
    have hcut := cellsP_cut (extra := extra) hp
    have hcut1 := cellsP_cut (extra := extra1) hg
    have hcutT : Cut (cellsP fs ++ extra) (j * 5 + 2) 2 [.bool g'.c2, .int .u32 g'.n2] := Cut.intro rfl (fun i v hi => by
      have : (frV g' s)[2 + i]? = some v := by
        match i, hi with
        | 0, hi => exact hi
        | 1, hi => exact hi
      have := Cut.at_ hcut this
      rw [show j * 5 + 2 + i = j * 5 + (2 + i) from by omega]
      exact this)
    have hn4 := cut_nth (j := 4) (v := .slice s.1 g'.bs.length s.2) hcut (by rfl)
    have hsame : Value.bool (!sameF g' g') = .bool false := by rw [(sameF_iff g' g').2 rfl]; rfl
    have hE := Lib.hid (And.intro (And.intro e1 e2) (And.intro e4 e5))
    have hPP := Lib.hid (And.intro hp hg)
    have hNl : N ≤ nt := by have := toL_take_le F.c2 F.n2 l j; omega
    have hntl : nt ≤ 100 := by have := toL_le F.c2 F.n2 l 0; omega
    have hNH := Lib.hid hN
    have hntH := Lib.hid hnt
    clear e1 e2 e4 e5 hp hg hN hnt hw
    have hHfl := Lib.hid hfl
    clear hfl
    by_cases ht : isTo F.c2 F.n2 g' = true
    · obtain ⟨h1, h2⟩ := toL_at hHfl.out ht
      have hN1 : N < nt := by
        have := (List.getElem?_eq_some_iff.1 h1).1
        rw [← hNH.out, ← hntH.out] at this
        exact this
      refine SL.TK.ownPos (e := 3) (sz := 1) (a := at') (by first | ((repeat (first | exact SL.Pick.head | apply SL.Pick.tail)); done) | fail) (by omega) (fun b2 extra2 ea e7 e8 e9 => ?_)
      subst ea
      have hnT : nth ((toL F.c2 F.n2 l 0).map intV ++ extra2) N = some (.int .i64 j) := by
        rw [nth_eq, List.getElem?_append_left (by rw [List.length_map, ← hntH.out]; exact hN1), List.getElem?_map, hNH.out, h1]
        rfl
      have hN2 := Lib.hid (congrArg List.length h2)
      have hE2 := Lib.hid (And.intro e7 e8)
      have htH := Lib.hid ht
      have hb210 : Value.bool (eqCells [.bool g'.c2, .int .u32 g'.n2] [.bool F.c2, .int .u32 F.n2]) = .bool true := congrArg Value.bool ht
      clear h1 h2 e7 e8 ht
      obtain ⟨T, hT⟩ : ∃ T, T = (toL F.c2 F.n2 l 0).map intV := ⟨_, rfl⟩
      rw [← hT] at hnT hE2 ⊢
      have hTH := Lib.hid hT
      clear hT
      repeat' (first | (refine SL.TO.is ?_; first | (refine SL.TO.door (o := ⟨_, .call ⟨.value (.func 17), _, _⟩, _, _, _, _⟩) ?_; first | (refine SL.W.call (of_spec _ _) ?_; rintro _ _ ⟨rfl, rfl⟩; try simp only [List.cons_append, List.nil_append])) | (refine SL.TO.door (o := ⟨_, .call ⟨.value (.func 20), _, _⟩, _, _, _, _⟩) ?_; first | (refine SL.W.call (same_spec _ _ _ _) ?_; rintro _ _ ⟨rfl, rfl⟩; try simp only [List.cons_append, List.nil_append])) | (refine SL.TO.door (o := ⟨_, .load _ _, _, _, _, _⟩) ?_; first | refine SL.W.loadN hn4 ?_ | refine SL.W.loadN hnT ?_) | refine SL.TO.nil ?_ | (refine SL.TO.nilD ?_; simp only [SL.setB]) | refine SL.W.pass ?_ | refine SL.W.pass0 ?_ | (refine SL.W.pure ?_; first | refine SL.W.pv ?_ | refine SL.W.pv0 ?_ | refine SL.W.lenMp ?_ | (refine SL.W.guardP (fun h => ?_) (fun h => ?_) <;> (fail_if_success (have : h = trivial := rfl)) <;> (fail_if_success (have : h = not_false := rfl)) <;> first | contradiction | (exfalso; omega) | (exfalso; revert h; simp; done) | skip) | (refine SL.W.guardB (fun h => ?_) (fun h => ?_) <;> (fail_if_success (have : h = (rfl : true = true) := rfl)) <;> (fail_if_success (have : h = (rfl : false = false) := rfl)))) | (refine SL.W.loud ?_; first | refine SL.W.load ?_ | refine SL.W.loadA ?_ | refine SL.W.store ?_ | refine SL.W.storeA ?_ | (refine SL.W.box ?_; intro b) | (refine SL.W.alloc ?_; intro b) | (refine SL.W.buildSlice ?_; intro b) | (refine SL.W.append ?_; intro a cap) | refine SL.W.bytesToStr ?_ | refine SL.W.pvn (SL.PV.toIntC (by rfl) (by first | exact SL.wrap_i64 (by omega) | exact SL.wrap_u8 (by omega) | exact SL.wrap_u32 (by omega) | exact SL.wrap_u64 (by omega) | rfl)) ?_ | (refine SL.W.makeSlice ?_; intro b) | refine SL.W.lookupOk ?_ | refine SL.W.lookup ?_ | (refine SL.W.makeMap ?_; intro b) | refine SL.W.mapUpdate ?_ | (refine SL.W.mapEntry ?_; intro stamp) | refine SL.W.entryStore ?_ | (refine SL.W.range ?_; intro it) | refine SL.W.delete ?_ | (refine SL.W.guardP (fun h => ?_) (fun h => ?_) <;> (fail_if_success (have : h = trivial := rfl)) <;> (fail_if_success (have : h = not_false := rfl)) <;> first | contradiction | (exfalso; omega) | (exfalso; revert h; simp; done) | skip) | (refine SL.W.guardB (fun h => ?_) (fun h => ?_) <;> (fail_if_success (have : h = (rfl : true = true) := rfl)) <;> (fail_if_success (have : h = (rfl : false = false) := rfl))))) | (refine SL.TK.lp ?_; first | refine SL.W.loop (flip_loop4 b0 l.length cl j _ g'.bs s _ _ _ _ _ _ _ _ _ _ _ hfb hlt (by omega) e3 hn4 (fun bs' hbs' => ?_))) | (refine SL.TK.is ?_; first | refine SL.TK.slot (d := 201) (by rfl) (v' := .bool false) hsame ?_ | refine SL.TK.slot (d := 210) (by rfl) (v' := .bool true) hb210 ?_ | refine SL.TK.seq ?_ | refine SL.TK.region ?_ | refine SL.TK.regionD SL.mixed (by simp only [SL.falses] <;> rfl) ?_ | refine SL.TK.block ?_ | refine SL.TK.inBlock ?_ | refine SL.TK.skip ?_ | refine SL.TK.scope ?_ | refine SL.TK.inScope ?_ | refine SL.TK.label ?_ | refine SL.W.exit ?_ | refine SL.W.condT ?_ | refine SL.W.condF ?_ | (refine SL.W.condP (fun h => ?_) (fun h => ?_) <;> (fail_if_success (have : h = trivial := rfl)) <;> (fail_if_success (have : h = not_false := rfl)) <;> first | contradiction | (exfalso; omega) | (exfalso; revert h; simp; done) | skip) | refine SL.W.condB (fun h => ?_) (fun h => ?_)) | (refine SL.TD.is ?_; first | refine SL.W.dloadAN hcut ?_ | refine SL.W.dloadAN hcut1 ?_ | refine SL.W.dloadAN hcutT ?_ | (refine SL.W.dfin ?_; simp only [List.append_nil, List.cons_append, List.nil_append]) | refine SL.W.dpass ?_ | refine SL.W.dpure ?_ | refine SL.W.dload ?_ | refine SL.W.dloadA ?_ | refine SL.W.dfrz ?_ | (refine SL.W.dthaw ?_; simp only [List.append_nil, List.cons_append, List.nil_append]) | (refine SL.W.dguardP (fun h => ?_) (fun h => ?_) <;> (fail_if_success (have : h = trivial := rfl)) <;> (fail_if_success (have : h = not_false := rfl)) <;> first | contradiction | (exfalso; omega) | (exfalso; revert h; simp; done) | skip) | (refine SL.W.dguardB (fun h => ?_) (fun h => ?_) <;> (fail_if_success (have : h = (rfl : true = true) := rfl)) <;> (fail_if_success (have : h = (rfl : false = false) := rfl))) | refine SL.W.done ?_ | refine SL.W.dtwo ?_ ?_ | refine SL.W.dthree ?_ ?_ ?_))
      have hcs : cellsP (fs.set j ({ g' with bs := bs' }, s)) = cellsP fs := cellsP_set (by simp [frV, hbs']) hPP.out.1
      have hset : (fs.set j ({ g' with bs := bs' }, s))[j]? = some ({ g' with bs := bs' }, s) := List.getElem?_set_self (by omega)
      have hback : ∀ h, seps [byt s bs', seps (framesP (fs.eraseIdx j))] h → seps (framesP (fs.set j ({ g' with bs := bs' }, s))) h := by
        have := frames_back hset
        rwa [eraseIdx_set'] at this
      refine SL.TK.againD ih ⟨j + 1, N + 1, fs.set j ({ g' with bs := bs' }, s), by omega, ChkSt.step hStH.out, by rw [hN2.out, hNH.out]; simp, rfl, rfl, rfl⟩ (by first | ((repeat (first | exact SL.Sub.nil | refine SL.Sub.cons (by rfl) (by first | rfl | exact SL.int_eq (by omega)) ?_)); done) | fail) ?_ (by omega)
      rw [hcs, ← hTH.out]
      exact EntD.frm (by first | ((repeat (first | exact SL.Frm.nil | exact SL.Frm.refl | (apply SL.Frm.cons; repeat (first | exact SL.Pick.head | apply SL.Pick.tail)))); done) | fail) (own_of_blk hE.out.1.1 hE.out.1.2 e3) (EntD.frm (by first | ((repeat (first | exact SL.Frm.nil | exact SL.Frm.refl | (apply SL.Frm.cons; repeat (first | exact SL.Pick.head | apply SL.Pick.tail)))); done) | fail) hback (EntD.frm (by first | ((repeat (first | exact SL.Frm.nil | exact SL.Frm.refl | (apply SL.Frm.cons; repeat (first | exact SL.Pick.head | apply SL.Pick.tail)))); done) | fail) (own_of_blk hE2.out.1 hE2.out.2 e9) (EntD.cons (by first | ((repeat (first | exact SL.Pick.head | apply SL.Pick.tail)); done) | fail) (EntD.frm (by first | ((repeat (first | exact SL.Frm.nil | exact SL.Frm.refl | (apply SL.Frm.cons; repeat (first | exact SL.Pick.head | apply SL.Pick.tail)))); done) | fail) (own_of_blk hE.out.2.1 hE.out.2.2 e6) (EntD.frm (by first | ((repeat (first | exact SL.Frm.nil | exact SL.Frm.refl | (apply SL.Frm.cons; repeat (first | exact SL.Pick.head | apply SL.Pick.tail)))); done) | fail) (frames_back hPP.out.2) (EntD.cons (by first | ((repeat (first | exact SL.Pick.head | apply SL.Pick.tail)); done) | fail) EntD.refl))))))
    · have ht' : isTo F.c2 F.n2 g' = false := by simpa using ht
      have h2 := toL_not hHfl.out ht'
      have hN2 := Lib.hid (congrArg List.length h2)
      have hb210 : Value.bool (eqCells [.bool g'.c2, .int .u32 g'.n2] [.bool F.c2, .int .u32 F.n2]) = .bool false := congrArg Value.bool ht'
      clear h2 ht ht'
      obtain ⟨T, hT⟩ : ∃ T, T = (toL F.c2 F.n2 l 0).map intV := ⟨_, rfl⟩
      rw [← hT]
      have hTH := Lib.hid hT
      clear hT
      repeat' (first | (refine SL.TO.is ?_; first | (refine SL.TO.door (o := ⟨_, .call ⟨.value (.func 17), _, _⟩, _, _, _, _⟩) ?_; first | (refine SL.W.call (of_spec _ _) ?_; rintro _ _ ⟨rfl, rfl⟩; try simp only [List.cons_append, List.nil_append])) | (refine SL.TO.door (o := ⟨_, .call ⟨.value (.func 20), _, _⟩, _, _, _, _⟩) ?_; first | (refine SL.W.call (same_spec _ _ _ _) ?_; rintro _ _ ⟨rfl, rfl⟩; try simp only [List.cons_append, List.nil_append])) | (refine SL.TO.door (o := ⟨_, .load _ _, _, _, _, _⟩) ?_; first | refine SL.W.loadN hn4 ?_) | refine SL.TO.nil ?_ | (refine SL.TO.nilD ?_; simp only [SL.setB]) | refine SL.W.pass ?_ | refine SL.W.pass0 ?_ | (refine SL.W.pure ?_; first | refine SL.W.pv ?_ | refine SL.W.pv0 ?_ | refine SL.W.lenMp ?_ | (refine SL.W.guardP (fun h => ?_) (fun h => ?_) <;> (fail_if_success (have : h = trivial := rfl)) <;> (fail_if_success (have : h = not_false := rfl)) <;> first | contradiction | (exfalso; omega) | (exfalso; revert h; simp; done) | skip) | (refine SL.W.guardB (fun h => ?_) (fun h => ?_) <;> (fail_if_success (have : h = (rfl : true = true) := rfl)) <;> (fail_if_success (have : h = (rfl : false = false) := rfl)))) | (refine SL.W.loud ?_; first | refine SL.W.load ?_ | refine SL.W.loadA ?_ | refine SL.W.store ?_ | refine SL.W.storeA ?_ | (refine SL.W.box ?_; intro b) | (refine SL.W.alloc ?_; intro b) | (refine SL.W.buildSlice ?_; intro b) | (refine SL.W.append ?_; intro a cap) | refine SL.W.bytesToStr ?_ | refine SL.W.pvn (SL.PV.toIntC (by rfl) (by first | exact SL.wrap_i64 (by omega) | exact SL.wrap_u8 (by omega) | exact SL.wrap_u32 (by omega) | exact SL.wrap_u64 (by omega) | rfl)) ?_ | (refine SL.W.makeSlice ?_; intro b) | refine SL.W.lookupOk ?_ | refine SL.W.lookup ?_ | (refine SL.W.makeMap ?_; intro b) | refine SL.W.mapUpdate ?_ | (refine SL.W.mapEntry ?_; intro stamp) | refine SL.W.entryStore ?_ | (refine SL.W.range ?_; intro it) | refine SL.W.delete ?_ | (refine SL.W.guardP (fun h => ?_) (fun h => ?_) <;> (fail_if_success (have : h = trivial := rfl)) <;> (fail_if_success (have : h = not_false := rfl)) <;> first | contradiction | (exfalso; omega) | (exfalso; revert h; simp; done) | skip) | (refine SL.W.guardB (fun h => ?_) (fun h => ?_) <;> (fail_if_success (have : h = (rfl : true = true) := rfl)) <;> (fail_if_success (have : h = (rfl : false = false) := rfl))))) | (refine SL.TK.lp ?_; first | refine SL.W.loop (flip_loop4 b0 l.length cl j _ g'.bs s _ _ _ _ _ _ _ _ _ _ _ hfb hlt (by omega) e3 hn4 (fun bs' hbs' => ?_))) | (refine SL.TK.is ?_; first | refine SL.TK.slot (d := 201) (by rfl) (v' := .bool false) hsame ?_ | refine SL.TK.slot (d := 210) (by rfl) (v' := .bool false) hb210 ?_ | refine SL.TK.seq ?_ | refine SL.TK.region ?_ | refine SL.TK.regionD SL.mixed (by simp only [SL.falses] <;> rfl) ?_ | refine SL.TK.block ?_ | refine SL.TK.inBlock ?_ | refine SL.TK.skip ?_ | refine SL.TK.scope ?_ | refine SL.TK.inScope ?_ | refine SL.TK.label ?_ | refine SL.W.exit ?_ | refine SL.W.condT ?_ | refine SL.W.condF ?_ | (refine SL.W.condP (fun h => ?_) (fun h => ?_) <;> (fail_if_success (have : h = trivial := rfl)) <;> (fail_if_success (have : h = not_false := rfl)) <;> first | contradiction | (exfalso; omega) | (exfalso; revert h; simp; done) | skip) | refine SL.W.condB (fun h => ?_) (fun h => ?_)) | (refine SL.TD.is ?_; first | refine SL.W.dloadAN hcut ?_ | refine SL.W.dloadAN hcut1 ?_ | refine SL.W.dloadAN hcutT ?_ | (refine SL.W.dfin ?_; simp only [List.append_nil, List.cons_append, List.nil_append]) | refine SL.W.dpass ?_ | refine SL.W.dpure ?_ | refine SL.W.dload ?_ | refine SL.W.dloadA ?_ | refine SL.W.dfrz ?_ | (refine SL.W.dthaw ?_; simp only [List.append_nil, List.cons_append, List.nil_append]) | (refine SL.W.dguardP (fun h => ?_) (fun h => ?_) <;> (fail_if_success (have : h = trivial := rfl)) <;> (fail_if_success (have : h = not_false := rfl)) <;> first | contradiction | (exfalso; omega) | (exfalso; revert h; simp; done) | skip) | (refine SL.W.dguardB (fun h => ?_) (fun h => ?_) <;> (fail_if_success (have : h = (rfl : true = true) := rfl)) <;> (fail_if_success (have : h = (rfl : false = false) := rfl))) | refine SL.W.done ?_ | refine SL.W.dtwo ?_ ?_ | refine SL.W.dthree ?_ ?_ ?_))
      have hcs : cellsP (fs.set j ({ g' with bs := bs' }, s)) = cellsP fs := cellsP_set (by simp [frV, hbs']) hPP.out.1
      have hset : (fs.set j ({ g' with bs := bs' }, s))[j]? = some ({ g' with bs := bs' }, s) := List.getElem?_set_self (by omega)
      have hback : ∀ h, seps [byt s bs', seps (framesP (fs.eraseIdx j))] h → seps (framesP (fs.set j ({ g' with bs := bs' }, s))) h := by
        have := frames_back hset
        rwa [eraseIdx_set'] at this
      refine SL.TK.againD ih ⟨j + 1, N, fs.set j ({ g' with bs := bs' }, s), by omega, ChkSt.step hStH.out, by rw [hN2.out, hNH.out], rfl, rfl, rfl⟩ (by first | ((repeat (first | exact SL.Sub.nil | refine SL.Sub.cons (by rfl) (by first | rfl | exact SL.int_eq (by omega)) ?_)); done) | fail) ?_ (by omega)
      rw [hcs, ← hTH.out]
      exact EntD.frm (by first | ((repeat (first | exact SL.Frm.nil | exact SL.Frm.refl | (apply SL.Frm.cons; repeat (first | exact SL.Pick.head | apply SL.Pick.tail)))); done) | fail) (own_of_blk hE.out.1.1 hE.out.1.2 e3) (EntD.frm (by first | ((repeat (first | exact SL.Frm.nil | exact SL.Frm.refl | (apply SL.Frm.cons; repeat (first | exact SL.Pick.head | apply SL.Pick.tail)))); done) | fail) hback (EntD.cons (by first | ((repeat (first | exact SL.Pick.head | apply SL.Pick.tail)); done) | fail) (EntD.cons (by first | ((repeat (first | exact SL.Pick.head | apply SL.Pick.tail)); done) | fail) (EntD.frm (by first | ((repeat (first | exact SL.Frm.nil | exact SL.Frm.refl | (apply SL.Frm.cons; repeat (first | exact SL.Pick.head | apply SL.Pick.tail)))); done) | fail) (own_of_blk hE.out.2.1 hE.out.2.2 e6) (EntD.frm (by first | ((repeat (first | exact SL.Frm.nil | exact SL.Frm.refl | (apply SL.Frm.cons; repeat (first | exact SL.Pick.head | apply SL.Pick.tail)))); done) | fail) (frames_back hPP.out.2) (EntD.cons (by first | ((repeat (first | exact SL.Pick.head | apply SL.Pick.tail)); done) | fail) EntD.refl))))))
  · have hjl : j = l.length := by omega
    subst hjl
    rw [List.take_length] at hN
    obtain rfl : N = nt := by rw [hN, hnt]
    clear ih hst hN hnt hw
    repeat' (first | (refine SL.TO.is ?_; first | refine SL.TO.nil ?_ | (refine SL.TO.nilD ?_; simp only [SL.setB]) | refine SL.W.pass ?_ | refine SL.W.pass0 ?_ | (refine SL.W.pure ?_; first | refine SL.W.pv ?_ | refine SL.W.pv0 ?_ | refine SL.W.lenMp ?_ | (refine SL.W.guardP (fun h => ?_) (fun h => ?_) <;> (fail_if_success (have : h = trivial := rfl)) <;> (fail_if_success (have : h = not_false := rfl)) <;> first | contradiction | (exfalso; omega) | (exfalso; revert h; simp; done) | skip) | (refine SL.W.guardB (fun h => ?_) (fun h => ?_) <;> (fail_if_success (have : h = (rfl : true = true) := rfl)) <;> (fail_if_success (have : h = (rfl : false = false) := rfl)))) | (refine SL.W.loud ?_; first | refine SL.W.load ?_ | refine SL.W.loadA ?_ | refine SL.W.store ?_ | refine SL.W.storeA ?_ | (refine SL.W.box ?_; intro b) | (refine SL.W.alloc ?_; intro b) | (refine SL.W.buildSlice ?_; intro b) | (refine SL.W.append ?_; intro a cap) | refine SL.W.bytesToStr ?_ | refine SL.W.pvn (SL.PV.toIntC (by rfl) (by first | exact SL.wrap_i64 (by omega) | exact SL.wrap_u8 (by omega) | exact SL.wrap_u32 (by omega) | exact SL.wrap_u64 (by omega) | rfl)) ?_ | (refine SL.W.makeSlice ?_; intro b) | refine SL.W.lookupOk ?_ | refine SL.W.lookup ?_ | (refine SL.W.makeMap ?_; intro b) | refine SL.W.mapUpdate ?_ | (refine SL.W.mapEntry ?_; intro stamp) | refine SL.W.entryStore ?_ | (refine SL.W.range ?_; intro it) | refine SL.W.delete ?_ | (refine SL.W.guardP (fun h => ?_) (fun h => ?_) <;> (fail_if_success (have : h = trivial := rfl)) <;> (fail_if_success (have : h = not_false := rfl)) <;> first | contradiction | (exfalso; omega) | (exfalso; revert h; simp; done) | skip) | (refine SL.W.guardB (fun h => ?_) (fun h => ?_) <;> (fail_if_success (have : h = (rfl : true = true) := rfl)) <;> (fail_if_success (have : h = (rfl : false = false) := rfl))))) | (refine SL.TK.is ?_; first | (refine SL.TK.weakD (by first | ((repeat (first | exact SL.Sub.nil | refine SL.Sub.cons (by rfl) (by first | rfl | exact SL.int_eq (by omega)) ?_)); done) | fail) ?_ hK.out; exact EntD.frm (by first | ((repeat (first | exact SL.Frm.nil | exact SL.Frm.refl | (apply SL.Frm.cons; repeat (first | exact SL.Pick.head | apply SL.Pick.tail)))); done) | fail) (ref_shut gs hG.out rfl) (EntD.drop (SL.Pick.head) (EntD.drop SL.Pick.head (EntD.drop SL.Pick.head (EntD.drop SL.Pick.head EntD.refl))))) | refine SL.TK.seq ?_ | refine SL.TK.region ?_ | refine SL.TK.regionD SL.mixed (by simp only [SL.falses] <;> rfl) ?_ | refine SL.TK.block ?_ | refine SL.TK.inBlock ?_ | refine SL.TK.skip ?_ | refine SL.TK.scope ?_ | refine SL.TK.inScope ?_ | refine SL.TK.label ?_ | refine SL.W.exit ?_ | refine SL.W.condT ?_ | refine SL.W.condF ?_ | (refine SL.W.condP (fun h => ?_) (fun h => ?_) <;> (fail_if_success (have : h = trivial := rfl)) <;> (fail_if_success (have : h = not_false := rfl)) <;> first | contradiction | (exfalso; omega) | (exfalso; revert h; simp; done) | skip) | refine SL.W.condB (fun h => ?_) (fun h => ?_)) | (refine SL.TD.is ?_; first | (refine SL.W.dfin ?_; simp only [List.append_nil, List.cons_append, List.nil_append]) | refine SL.W.dpass ?_ | refine SL.W.dpure ?_ | refine SL.W.dload ?_ | refine SL.W.dloadA ?_ | refine SL.W.dfrz ?_ | (refine SL.W.dthaw ?_; simp only [List.append_nil, List.cons_append, List.nil_append]) | (refine SL.W.dguardP (fun h => ?_) (fun h => ?_) <;> (fail_if_success (have : h = trivial := rfl)) <;> (fail_if_success (have : h = not_false := rfl)) <;> first | contradiction | (exfalso; omega) | (exfalso; revert h; simp; done) | skip) | (refine SL.W.dguardB (fun h => ?_) (fun h => ?_) <;> (fail_if_success (have : h = (rfl : true = true) := rfl)) <;> (fail_if_success (have : h = (rfl : false = false) := rfl))) | refine SL.W.done ?_ | refine SL.W.dtwo ?_ ?_ | refine SL.W.dthree ?_ ?_ ?_))
end SL
