/-
  Chapter 29: the document's Flip, inside.
-/
import Derived.Test.YtidogcbcknpdiaaNet22
set_option linter.unusedVariables false
set_option linter.unusedSimpArgs false
set_option maxRecDepth 10000
namespace SL
open Go Go.Proofs Go.RowKit
theorem cells_put {f f' : Fr} {s s' : Option Addr × Nat} {v : Value} {extra : List Value} (he : frV f' s' = (frV f s).take 4 ++ [v]) : ∀ {fs : Frs} {k : Nat}, fs[k]? = some (f, s) → PutAt (cellsP fs ++ extra) (k * 5 + 4) [v] (cellsP (fs.set k (f', s')) ++ extra)
  | [], k, h => by simp at h
  | p :: fs, 0, h => by
    simp at h; subst h
    simp only [List.set_cons_zero, cellsP, he]
    exact .there (.there (.there (.there (.here (.nil _)))))
  | p :: fs, k + 1, h => by
    have ih := cells_put (extra := extra) he (fs := fs) (k := k) (by simpa using h)
    have e : (k + 1) * 5 + 4 = k * 5 + 4 + 1 + 1 + 1 + 1 + 1 := by omega
    rw [e]
    simp only [List.set_cons_succ, cellsP]
    exact .there (.there (.there (.there (.there ih))))
theorem ref_flip {rb b bb m cap cap2 k n : Nat} {l : List Fr} {f f' : Fr} {s : Option Addr × Nat} {ex extra : List Value} (fs : Frs) (hfs : fs.map (·.1) = l) (hm : m = l.length) (hk : fs[k]? = some (f, s))
    (hc : m ≤ cap) (hcap : (cellsP fs ++ extra).length = cap * 5) (hn : f'.bs.length = n) (hc2 : n ≤ cap2) (hcap2 : (f'.bs.map byteV ++ ex).length = cap2 * 1) :
    ∀ h, seps [SL.blk rb 50 [.slice (some ⟨b, 0, none⟩) m cap], SL.blk b 53 (cellsP (fs.set k (f', (some ⟨bb, 0, none⟩, cap2))) ++ extra), SL.blk bb 5 (f'.bs.map byteV ++ ex), seps (framesP (fs.eraseIdx k))] h → RefAt rb (l.set k f') h := by
  intro h x
  have hlt : k < fs.length := (List.getElem?_eq_some_iff.1 hk).1
  have hset : (fs.set k (f', (some ⟨bb, 0, none⟩, cap2)))[k]? = some (f', (some ⟨bb, 0, none⟩, cap2)) := by simp [hlt]
  refine ref_same (a := some ⟨b, 0, none⟩) (cap := cap) (m := m) (fs.set k (f', (some ⟨bb, 0, none⟩, cap2))) (by rw [List.map_set, hfs]) (by rw [hm, List.length_set]) hset h ?_
  rw [eraseIdx_set']
  refine sep_mono (fun _ y => y) (fun _ y => sep_mono (fun _ z => own_blk ?_ ?_ hc z) (fun _ z => sep_mono (fun _ u => own_blk (n := f'.bs.length) (by simp) hcap2 (by rw [hn]; exact hc2) u) (fun _ u => u) z) y) x
  · rw [cellsP_length, List.length_set, hm, ← hfs, List.length_map]
  · rw [← hcap]; simp [cellsP_length]
theorem u8_quo (b : UInt8) (P : Nat) (h : 0 < P) : IntKind.wrap .u8 ((b.toNat : Int).tdiv P) = ((b.toNat / P : Nat) : Int) := by
  have hb := b.toNat_lt
  have h1 : b.toNat / P ≤ b.toNat := Nat.div_le_self _ _
  rw [Int.tdiv_eq_ediv_of_nonneg (by omega), ← Int.natCast_ediv]
  generalize b.toNat / P = d at h1 ⊢
  exact wrap_u8 (by omega)
theorem u8_rem (n : Nat) : ((n : Int).tmod 2) = ((n % 2 : Nat) : Int) := by
  rw [rem_nn (by omega)]; omega
theorem bit_facts : ∀ r, r < 8 → ∀ b, b < 256 → (b / 2 ^ r % 2 = 1 → 2 ^ r ≤ b) ∧ (b / 2 ^ r % 2 ≠ 1 → b + 2 ^ r ≤ 255) := by decide
attribute [local irreducible] SL.TK SL.TO SL.TD SL.PV SL.Pick SL.Frm SL.Ent SL.Sub SL.EvAll SL.seps SL.sep SL.Cut SL.PutAt SL.blk SL.EvP SL.Fill SL.Src SL.EntD SL.own SL.ex SL.fact SL.orig

theorem rflip_in (rb k q : Nat) (l : List Fr) (f : Fr) (hk : l[k]? = some f) (hq : q / 8 < f.bs.length) (hb : f.bs.length ≤ 1048576) : Spec Try.prog 22 [.pointer (some ⟨rb, 0, none⟩), .int .i64 k, .int .i64 q] [RefAt rb l]
    (fun r L => r = .int .i64 0 ∧ L = [RefAt rb (l.set k (flipF f q))]) := by
  refine SL.Spec.of_TK Go.Proofs.Try.func22 rfl rfl SL.call22 rfl ?_
  refine SL.TK.openRef (by first | ((repeat (first | exact SL.Pick.head | apply SL.Pick.tail)); done) | fail) (fun a1 cap1 fs hfs => ?_)
  have hlen : fs.length = l.length := by rw [← hfs, List.length_map]
  have hlt : k < l.length := (List.getElem?_eq_some_iff.1 hk).1
  obtain ⟨p, hp⟩ : ∃ p, fs[k]? = some p := ⟨fs[k]'(by omega), List.getElem?_eq_getElem (by omega)⟩
  obtain ⟨f', s⟩ := p
  have hf : f' = f := by
    rw [← hfs, List.getElem?_map, hp] at hk
    simpa using hk
  subst hf
  have hH := Lib.hid hfs
  have hltf : k < fs.length := by omega
  have hHl := Lib.hid hlen
  rw [← hlen]
  refine SL.TK.ownPos (e := 53) (by first | ((repeat (first | exact SL.Pick.head | apply SL.Pick.tail)); done) | fail) (by omega) (fun b0 extra ea e1 e2 e3 => ?_)
  subst ea
  have hcut := cellsP_cut (extra := extra) hp
  have hn := cut_nth (j := 4) (v := .slice s.1 f'.bs.length s.2) hcut (by rfl)
  refine SL.TK.pickFr (by first | ((repeat (first | exact SL.Pick.head | apply SL.Pick.tail)); done) | fail) hp ?_
  have how := own35o s f'.bs hb
  obtain ⟨P, hP⟩ : ∃ P, P = 2 ^ (q % 8) := ⟨_, rfl⟩
  have hPP := Lib.hid hP
  obtain ⟨b, hbb⟩ : ∃ b, b = f'.bs[q / 8] := ⟨_, rfl⟩
  have hbf := bit_facts (q % 8) (by omega) b.toNat b.toNat_lt
  have hfp := flipB_plain (q % 8) (by omega) b.toNat b.toNat_lt
  rw [UInt8.ofNat_toNat] at hfp
  have hP0 : 0 < P := by rw [hP]; exact Nat.pos_of_ne_zero (by simp)
  rw [← hP] at hbf hfp
  have hq1 := u8_quo b P hP0
  have hE := Lib.hid (And.intro e2 hp)
  have hset : flipF f' q = { f' with bs := f'.bs.set (q / 8) (flipB b (q % 8)) } := by
    unfold flipF
    rw [List.getD_eq_getElem?_getD, List.getElem?_eq_getElem hq, hbb]
    rfl
  have hSS := Lib.hid hset
  clear hset hP e2 hlen hfs hp hk e1
  have hP0' : (P : Int) ≠ 0 := by omega
  obtain ⟨D, hD⟩ : ∃ D, D = b.toNat / P := ⟨_, rfl⟩
  obtain ⟨E, hEE⟩ : ∃ E, E = D % 2 := ⟨_, rfl⟩
  rw [← hD] at hq1 hbf hfp
  rw [← hEE] at hbf hfp
  clear hD
  have hb256 := b.toNat_lt
  have hfs2 : E = 1 → IntKind.u8.wrap ((b.toNat : Int) - P) = ((flipB b (q % 8)).toNat : Int) := by
    intro h
    have h2 := hbf.1 h
    rw [hfp, if_pos h]
    rw [wrap_u8 (by omega)]
    omega
  have hfa2 : E ≠ 1 → IntKind.u8.wrap ((b.toNat : Int) + P) = ((flipB b (q % 8)).toNat : Int) := by
    intro h
    have h2 := hbf.2 h
    rw [hfp, if_neg h]
    rw [wrap_u8 (by omega)]
    omega
  have hA := Lib.hid hfs2
  have hB := Lib.hid hfa2
  clear hfs2 hfa2 hfp hbf
  obtain ⟨g, hg⟩ : ∃ g, g = flipB b (q % 8) := ⟨_, rfl⟩
  rw [← hg] at hA hB hSS
  have hcp : ∀ bb cap2, PutAt (cellsP fs ++ extra) (k * 5 + 4) [.slice (some ⟨bb, 0, none⟩) f'.bs.length cap2] (cellsP (fs.set k ({ f' with bs := f'.bs.set (q / 8) g }, (some ⟨bb, 0, none⟩, cap2))) ++ extra) := fun bb cap2 =>
    cells_put (by simp [frV]) hE.out.2
  clear hg
  repeat' (first | (refine SL.TO.is ?_; first | (refine SL.TO.door (o := ⟨_, .load _ _, _, _, _, _⟩) ?_; first | refine SL.W.loadN hn ?_ | refine SL.W.loadN hm ?_) | (refine SL.TO.door (o := ⟨_, .call ⟨.value (.func 35), _, _⟩, _, _, _, _⟩) ?_; first | (refine SL.W.call (how) ?_; rintro _ _ ⟨a2, cap2, rfl, rfl⟩; try simp only [List.cons_append, List.nil_append])) | (refine SL.TO.door (o := ⟨_, .store _ _ _, _, _, _, _⟩) ?_; first | (refine SL.TO.slot (d := 72) (by rfl) (v' := byteV g) (congrArg (Value.int IntKind.u8) (hA.out (by rw [hq1] at h; omega))) ?_; refine SL.W.storeN hput ?_) | (refine SL.TO.slot (d := 83) (by rfl) (v' := byteV g) (congrArg (Value.int IntKind.u8) (hB.out (by rw [hq1] at h; omega))) ?_; refine SL.W.storeN hput ?_) | refine SL.W.storeN (hcp _ _) ?_) | refine SL.TO.nil ?_ | (refine SL.TO.nilD ?_; simp only [SL.setB]) | refine SL.W.pass ?_ | refine SL.W.pass0 ?_ | (refine SL.W.pure ?_; first | refine SL.W.pv ?_ | refine SL.W.pv0 ?_ | refine SL.W.lenMp ?_ | (refine SL.W.guardP (fun h => ?_) (fun h => ?_) <;> (fail_if_success (have : h = trivial := rfl)) <;> (fail_if_success (have : h = not_false := rfl)) <;> first | contradiction | (exfalso; omega) | (exfalso; revert h; simp; done) | skip) | (refine SL.W.guardB (fun h => ?_) (fun h => ?_) <;> (fail_if_success (have : h = (rfl : true = true) := rfl)) <;> (fail_if_success (have : h = (rfl : false = false) := rfl)))) | (refine SL.W.loud ?_; first | refine SL.W.load ?_ | refine SL.W.loadA ?_ | refine SL.W.store ?_ | refine SL.W.storeA ?_ | (refine SL.W.box ?_; intro b) | (refine SL.W.alloc ?_; intro b) | (refine SL.W.buildSlice ?_; intro b) | (refine SL.W.append ?_; intro a cap) | refine SL.W.bytesToStr ?_ | refine SL.W.pvn (SL.PV.toIntC (by rfl) (by first | exact SL.wrap_i64 (by omega) | exact SL.wrap_u8 (by omega) | exact SL.wrap_u32 (by omega) | exact SL.wrap_u64 (by omega) | rfl)) ?_ | (refine SL.W.makeSlice ?_; intro b) | refine SL.W.lookupOk ?_ | refine SL.W.lookup ?_ | (refine SL.W.makeMap ?_; intro b) | refine SL.W.mapUpdate ?_ | (refine SL.W.mapEntry ?_; intro stamp) | refine SL.W.entryStore ?_ | (refine SL.W.range ?_; intro it) | refine SL.W.delete ?_ | (refine SL.W.guardP (fun h => ?_) (fun h => ?_) <;> (fail_if_success (have : h = trivial := rfl)) <;> (fail_if_success (have : h = not_false := rfl)) <;> first | contradiction | (exfalso; omega) | (exfalso; revert h; simp; done) | skip) | (refine SL.W.guardB (fun h => ?_) (fun h => ?_) <;> (fail_if_success (have : h = (rfl : true = true) := rfl)) <;> (fail_if_success (have : h = (rfl : false = false) := rfl))))) | (refine SL.TK.lp ?_; first | (refine SL.TK.ownPos (e := 5) (sz := 1) (a := a2) (by first | ((repeat (first | exact SL.Pick.head | apply SL.Pick.tail)); done) | fail) (by omega) (fun bb ex eb g1 g2 g3 => ?_); subst eb; have hE2 := Lib.hid (And.intro g2 g3); clear g1 g2; have hm := nth_bytes (ex := ex) hq; rw [← hbb] at hm; have hput := put_byte (ex := ex) hq g; refine SL.W.loop (pow_loop q (q % 8) P _ _ _ _ rfl hPP (by omega) ?_))) | (refine SL.TK.is ?_; first | refine SL.TK.seq ?_ | refine SL.TK.region ?_ | refine SL.TK.regionD SL.mixed (by simp only [SL.falses] <;> rfl) ?_ | refine SL.TK.block ?_ | refine SL.TK.inBlock ?_ | refine SL.TK.skip ?_ | refine SL.TK.scope ?_ | refine SL.TK.inScope ?_ | refine SL.TK.label ?_ | refine SL.W.exit ?_ | refine SL.W.condT ?_ | refine SL.W.condF ?_ | (refine SL.W.condP (fun h => ?_) (fun h => ?_) <;> (fail_if_success (have : h = trivial := rfl)) <;> (fail_if_success (have : h = not_false := rfl)) <;> first | contradiction | (exfalso; omega) | (exfalso; revert h; simp; done) | skip) | refine SL.W.condB (fun h => ?_) (fun h => ?_)) | (refine SL.TD.is ?_; first | (refine SL.W.dfin ?_; simp only [List.append_nil, List.cons_append, List.nil_append]) | refine SL.W.dpass ?_ | refine SL.W.dpure ?_ | refine SL.W.dload ?_ | refine SL.W.dloadA ?_ | refine SL.W.dfrz ?_ | (refine SL.W.dthaw ?_; simp only [List.append_nil, List.cons_append, List.nil_append]) | (refine SL.W.dguardP (fun h => ?_) (fun h => ?_) <;> (fail_if_success (have : h = trivial := rfl)) <;> (fail_if_success (have : h = not_false := rfl)) <;> first | contradiction | (exfalso; omega) | (exfalso; revert h; simp; done) | skip) | (refine SL.W.dguardB (fun h => ?_) (fun h => ?_) <;> (fail_if_success (have : h = (rfl : true = true) := rfl)) <;> (fail_if_success (have : h = (rfl : false = false) := rfl))) | refine SL.W.done ?_ | refine SL.W.dtwo ?_ ?_ | refine SL.W.dthree ?_ ?_ ?_))
  all_goals
    refine SL.TK.retD Try.func22 (SL.Res.one rfl (by rfl)) (L' := [RefAt rb (l.set k (flipF f' q))]) ⟨rfl, rfl⟩ ?_
    rw [hSS.out]
    exact EntD.frm (by first | ((repeat (first | exact SL.Frm.nil | exact SL.Frm.refl | (apply SL.Frm.cons; repeat (first | exact SL.Pick.head | apply SL.Pick.tail)))); done) | fail) (ref_flip (f' := { f' with bs := f'.bs.set (q / 8) g }) (n := f'.bs.length) fs hH.out hHl.out hE.out.2 e3 hE.out.1 (by simp) hE2.out.2 (by have := hE2.out.1; simpa using this)) (EntD.drop1 SL.Pick.head)
end SL
