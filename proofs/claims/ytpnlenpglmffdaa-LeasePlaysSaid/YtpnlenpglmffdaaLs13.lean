/-
  Leases: Copy; rows of clients held against each other; the plain law of LeaseExpires.
-/
import Derived.Test.YtpnlenpglmffdaaLs7a
import Derived.Test.YtpnlenpglmffdaaSo15
set_option linter.unusedVariables false
set_option linter.unusedSimpArgs false
set_option maxRecDepth 10000
namespace SL
open Go Go.Proofs Go.RowKit

theorem take_same {xs ys : List Int} {i : Nat} (h : xs.take i = ys.take i) (hx : i < xs.length) (hy : i < ys.length) : xs.take (i + 1) = ys.take (i + 1) ↔ nat_ xs i = nat_ ys i := by
  rw [List.take_add_one, List.take_add_one, h, List.getElem?_eq_getElem hx, List.getElem?_eq_getElem hy, nat_eq hx, nat_eq hy]
  simp
theorem idls_lkp {ks : List Int} {x : Int} : ∀ {T : As2}, (T.map (·.1)).Nodup → ((idls ks T).map (·.1)).Nodup ∧ lkp x (idls ks T) = (if x ∈ ks then none else lkp x T) ∧ (idls ks T).map (·.1) = (T.map (·.1)).filter fun q => !decide (q ∈ ks) := by
  induction ks with
  | nil => intro T h; exact ⟨h, by simp [idls], (List.filter_eq_self.2 (by simp)).symm⟩
  | cons k ks ih =>
    intro T h
    have h1 : ((idl k T).map (·.1)).Nodup := by rw [idl_keys k T h]; exact h.filter _
    obtain ⟨a, b, c⟩ := ih h1
    refine ⟨a, ?_, ?_⟩
    · show lkp x (idls ks (idl k T)) = _
      rw [b, lkp_idl k x T h]
      by_cases e : x = k
      · simp [e]
      · simp [e]
    · show (idls ks (idl k T)).map (·.1) = _
      rw [c, idl_keys k T h, List.filter_filter]
      refine List.filter_congr fun q _ => ?_
      by_cases e : q = k
      · simp [e]
      · simp [e]
/-! leases out of a row of ticks -/
def leT (zs : List Int) (k : Nat) : As2 := (List.range k).map fun (j : Nat) => ((j : Int), nat_ zs j + 64)
def cls (k : Nat) : List Int := (List.range k).map Int.ofNat
theorem leT_keys (zs : List Int) (k : Nat) : (leT zs k).map (·.1) = cls k := by simp [leT, cls]
theorem leT_len (zs : List Int) (k : Nat) : (leT zs k).length = k := by simp [leT]
theorem cls_len (k : Nat) : (cls k).length = k := by simp [cls]
theorem cls_mem {k : Nat} {q : Int} : q ∈ cls k ↔ 0 ≤ q ∧ q < k := by
  simp only [cls, List.mem_map, List.mem_range]
  constructor
  · rintro ⟨a, ha, rfl⟩; exact ⟨Int.natCast_nonneg a, by show (a : Int) < k; omega⟩
  · rintro ⟨h0, h1⟩; exact ⟨q.toNat, by omega, by show ((q.toNat : Nat) : Int) = q; omega⟩
theorem cls_strict (k : Nat) : (cls k).Pairwise (· < ·) := by
  unfold cls
  rw [List.pairwise_map]
  exact List.pairwise_lt_range.imp fun h => by show ((_ : Nat) : Int) < ((_ : Nat) : Int); omega
theorem cls_nodup (k : Nat) : (cls k).Nodup := (cls_strict k).imp fun h => Int.ne_of_lt h
theorem srt_strict {xs : List Int} (h : xs.Pairwise (· < ·)) : srt xs = xs := sorted_unique (srt_sorted _) (h.imp fun h => Int.le_of_lt h) (srt_perm _)
theorem leT_srt (zs : List Int) (k : Nat) : srt ((leT zs k).map (·.1)) = cls k := by rw [leT_keys]; exact srt_strict (cls_strict k)
theorem leT_nodup (zs : List Int) (k : Nat) : ((leT zs k).map (·.1)).Nodup := by rw [leT_keys]; exact cls_nodup k
theorem leT_til (zs : List Int) {k i : Nat} (h : i < k) : til (i : Int) (leT zs k) = nat_ zs i + 64 := by
  unfold til
  rw [lkp_mem (leT_nodup zs k) (v := nat_ zs i + 64) (by simp only [leT, List.mem_map, List.mem_range]; exact ⟨i, h, rfl⟩)]; rfl
theorem leT_new (zs : List Int) (i : Nat) : lkp (i : Int) (leT zs i) = none := lkp_none.2 (by rw [leT_keys, cls_mem]; omega)
theorem leT_set {zs : List Int} {i : Nat} (h : i < 16) (hz : 0 ≤ nat_ zs i ∧ nat_ zs i ≤ 65535) : setE i (nat_ zs i) (leT zs i) = 0 ∧ setT i (nat_ zs i) (leT zs i) = leT zs (i + 1) := by
  have h0 : setE i (nat_ zs i) (leT zs i) = 0 := by
    unfold setE
    rw [if_neg (by omega), if_neg (by rw [leT_len]; omega)]
  refine ⟨h0, ?_⟩
  unfold setT
  rw [if_pos h0]
  have ht : til (i : Int) (leT zs i) = 0 := by unfold til; rw [leT_new]; rfl
  have hiup : ∀ T : As2, lkp (i : Int) T = none → iup (i : Int) (max 0 (nat_ zs i + 64)) T = T ++ [((i : Int), max 0 (nat_ zs i + 64))] := by
    intro T
    induction T with
    | nil => intro _; rfl
    | cons p T ih =>
      intro hl
      simp only [lkp] at hl
      split at hl
      · cases hl
      · rename_i e
        simp only [iup, if_neg e, ih hl, List.cons_append]
  rw [ht, hiup _ (leT_new zs i), show max 0 (nat_ zs i + 64) = nat_ zs i + 64 from by omega]
  simp [leT, List.range_succ]
/-- what stands when those that are not there have gone -/
structure Gone (zs : List Int) (k : Nat) (t : Int) (G Lf : List Int) (T U : As2) : Prop where
  hT : T = leT zs k
  hG : G = selC T false t (cls k)
  hL : Lf = selC T true t (cls k)
  hU : U = idls G T
theorem Gone.mk' (zs : List Int) (k : Nat) (t : Int) : Gone zs k t (selC (leT zs k) false t (cls k)) (selC (leT zs k) true t (cls k)) (leT zs k) (idls (selC (leT zs k) false t (cls k)) (leT zs k)) := ⟨rfl, rfl, rfl, rfl⟩
section
variable {zs : List Int} {k : Nat} {t : Int} {G Lf : List Int} {T U : As2}
theorem Gone.memL (h : Gone zs k t G Lf T U) {q : Int} : q ∈ Lf ↔ q ∈ cls k ∧ t < til q T := by rw [h.hL]; simp [selC]
theorem Gone.memG (h : Gone zs k t G Lf T U) {q : Int} : q ∈ G ↔ q ∈ cls k ∧ ¬ t < til q T := by rw [h.hG]; simp [selC]
theorem Gone.srtT (h : Gone zs k t G Lf T U) : srt (T.map (·.1)) = cls k := by rw [h.hT, leT_srt]
theorem Gone.lenT (h : Gone zs k t G Lf T U) : T.length = k := by rw [h.hT, leT_len]
theorem Gone.lkpU (h : Gone zs k t G Lf T U) (x : Int) : lkp x U = if x ∈ G then none else lkp x T := by
  rw [h.hU]; exact (idls_lkp (by rw [h.hT]; exact leT_nodup zs k)).2.1
theorem Gone.keysU (h : Gone zs k t G Lf T U) : U.map (·.1) = Lf := by
  rw [h.hU, (idls_lkp (x := 0) (by rw [h.hT]; exact leT_nodup zs k)).2.2]
  have : T.map (·.1) = cls k := by rw [h.hT, leT_keys]
  rw [this, h.hL]
  refine List.filter_congr fun q hq => ?_
  have := h.memG (q := q)
  by_cases e : t < til q T
  · simp [this, e]
  · simp [this, e, hq]
theorem Gone.strictL (h : Gone zs k t G Lf T U) : Lf.Pairwise (· < ·) := by rw [h.hL]; exact (cls_strict k).filter _
theorem Gone.srtU (h : Gone zs k t G Lf T U) : srt (U.map (·.1)) = Lf := by rw [h.keysU]; exact srt_strict h.strictL
theorem Gone.lenU (h : Gone zs k t G Lf T U) : U.length = Lf.length := by rw [← h.keysU, List.length_map]
theorem Gone.lenL (h : Gone zs k t G Lf T U) : Lf.length ≤ k := by rw [h.hL]; exact Nat.le_trans (List.length_filter_le _ _) (by rw [cls_len]; exact Nat.le_refl _)
theorem Gone.lenG (h : Gone zs k t G Lf T U) : G.length ≤ k := by rw [h.hG]; exact Nat.le_trans (List.length_filter_le _ _) (by rw [cls_len]; exact Nat.le_refl _)
theorem Gone.tilU (h : Gone zs k t G Lf T U) {q : Int} (hq : q ∈ Lf) : til q U = til q T := by
  unfold til
  rw [h.lkpU, if_neg (fun c => (h.memG.1 c).2 (h.memL.1 hq).2)]
theorem Gone.all (h : Gone zs k t G Lf T U) : G.length + Lf.length = k := by
  rw [h.hG, h.hL]
  have : ∀ l : List Int, (selC T false t l).length + (selC T true t l).length = l.length := by
    intro l
    induction l with
    | nil => rfl
    | cons x l ih =>
      simp only [selC, List.filter_cons] at ih ⊢
      by_cases e : t < til x T
      · rw [decide_eq_true e, if_neg (by decide), if_pos (by decide)]; simp only [List.length_cons]; omega
      · rw [decide_eq_false e, if_pos (by decide), if_neg (by decide)]; simp only [List.length_cons]; omega
  rw [this, cls_len]
theorem Gone.again (h : Gone zs k t G Lf T U) : selC U false t Lf = [] := by
  unfold selC
  rw [List.filter_eq_nil_iff]
  intro q hq
  rw [h.tilU hq]
  simp [(h.memL.1 hq).2]
theorem Gone.there (h : Gone zs k t G Lf T U) {u : Int} (hu : t ≤ u) : selC U true u Lf = selC T true u (cls k) := by
  have e : selC U true u Lf = selC T true u Lf := List.filter_congr fun q hq => by rw [h.tilU hq]
  rw [e, h.hL]
  unfold selC
  rw [List.filter_filter]
  refine List.filter_congr fun q hq => ?_
  by_cases e : u < til q T
  · have : t < til q T := by omega
    simp [e, this]
  · simp [e]
theorem Gone.thereT (h : Gone zs k t G Lf T U) : selC T true t (cls k) = Lf := h.hL.symm
theorem Gone.liveL (h : Gone zs k t G Lf T U) {q : Int} (hq : q ∈ Lf) : decide (t < til q U) = true := by rw [h.tilU hq]; exact decide_eq_true (h.memL.1 hq).2
theorem Gone.atL (h : Gone zs k t G Lf T U) {q : Int} (hq : q ∈ Lf) : ∃ j : Nat, q = j ∧ j < k ∧ til q U = nat_ zs j + 64 := by
  have h1 := cls_mem.1 (h.memL.1 hq).1
  refine ⟨q.toNat, by omega, by omega, ?_⟩
  rw [h.tilU hq, h.hT]
  have := leT_til zs (k := k) (i := q.toNat) (by omega)
  rwa [show ((q.toNat : Nat) : Int) = q from by omega] at this
theorem Gone.liveG (h : Gone zs k t G Lf T U) {q : Int} (hq : q ∈ G) : decide (t < til q T) = false := decide_eq_false (h.memG.1 hq).2
theorem Gone.dropG (h : Gone zs k t G Lf T U) {q : Int} (hq : q ∈ G) : (lkp q U).isSome = false := by rw [h.lkpU, if_pos hq]; rfl
end
attribute [local irreducible] SL.TK SL.TO SL.TD SL.PV SL.Pick SL.Frm SL.Ent SL.Sub SL.EvAll SL.seps SL.sep SL.Cut SL.PutAt SL.blk SL.EvP SL.Fill SL.Src SL.EntD SL.own SL.ex SL.fact SL.orig

def smI (ab bb n c d : Nat) (xs ys : List Int) (ex ex' : List Value) (ρ : Env) (L : List HProp) (m : Nat) : Prop := ∃ i : Nat, i ≤ n ∧ xs.take i = ys.take i ∧
  ρ = [(0, .slice (some ⟨ab, 0, none⟩) n c), (1, .slice (some ⟨bb, 0, none⟩) n d), (5, .int .i64 i)] ∧ L = [SL.blk ab 31 (xs.map iv ++ ex), SL.blk bb 31 (ys.map iv ++ ex')] ∧ m = n - i
theorem same_spec (a b : Option Addr) (c d : Nat) (xs ys : List Int) (hb : xs.length ≤ 1000000) : Spec Try.prog 35 [.slice a xs.length c, .slice b ys.length d] [own 31 1 a xs.length c (xs.map iv), own 31 1 b ys.length d (ys.map iv)] (fun r L => r = .bool (decide (xs = ys)) ∧ L = []) := by
  obtain ⟨n, hn⟩ : ∃ n, n = xs.length := ⟨_, rfl⟩
  obtain ⟨m, hm⟩ : ∃ m, m = ys.length := ⟨_, rfl⟩
  rw [← hn] at hb
  rw [← hn, ← hm]
  by_cases hnm : n = m
  · subst hnm
    by_cases h0 : n = 0
    · subst h0
      have e1 : xs = [] := List.eq_nil_of_length_eq_zero hn.symm
      have e2 : ys = [] := List.eq_nil_of_length_eq_zero hm.symm
      subst e1 e2
      clear hn hm
      refine SL.Spec.of_TK Go.Proofs.Try.func35 rfl rfl SL.call35 rfl ?_
      repeat' (first | (refine SL.TO.is ?_; first | refine SL.TO.nil ?_ | (refine SL.TO.nilD ?_; simp only [SL.setB]) | refine SL.W.pass ?_ | refine SL.W.pass0 ?_ | (refine SL.W.pure ?_; first | refine SL.W.pv ?_ | refine SL.W.pv0 ?_ | refine SL.W.lenMp ?_ | (refine SL.W.guardP (fun h => ?_) (fun h => ?_) <;> (fail_if_success (have : h = trivial := rfl)) <;> (fail_if_success (have : h = not_false := rfl)) <;> first | contradiction | (exfalso; omega) | (exfalso; revert h; simp; done) | skip) | (refine SL.W.guardB (fun h => ?_) (fun h => ?_) <;> (fail_if_success (have : h = (rfl : true = true) := rfl)) <;> (fail_if_success (have : h = (rfl : false = false) := rfl)))) | (refine SL.W.loud ?_; first | refine SL.W.load ?_ | refine SL.W.loadA ?_ | refine SL.W.store ?_ | refine SL.W.storeA ?_ | (refine SL.W.box ?_; intro b) | (refine SL.W.alloc ?_; intro b) | (refine SL.W.buildSlice ?_; intro b) | (refine SL.W.append ?_; intro a cap) | refine SL.W.bytesToStr ?_ | refine SL.W.pvn (SL.PV.toIntC (by rfl) (by first | exact SL.wrap_i64 (by omega) | exact SL.wrap_u8 (by omega) | exact SL.wrap_u32 (by omega) | exact SL.wrap_u64 (by omega) | rfl)) ?_ | (refine SL.W.makeSlice ?_; intro b) | refine SL.W.lookupOk ?_ | refine SL.W.lookup ?_ | (refine SL.W.makeMap ?_; intro b) | refine SL.W.mapUpdate ?_ | (refine SL.W.mapEntry ?_; intro stamp) | refine SL.W.entryStore ?_ | (refine SL.W.range ?_; intro it) | refine SL.W.delete ?_ | (refine SL.W.guardP (fun h => ?_) (fun h => ?_) <;> (fail_if_success (have : h = trivial := rfl)) <;> (fail_if_success (have : h = not_false := rfl)) <;> first | contradiction | (exfalso; omega) | (exfalso; revert h; simp; done) | skip) | (refine SL.W.guardB (fun h => ?_) (fun h => ?_) <;> (fail_if_success (have : h = (rfl : true = true) := rfl)) <;> (fail_if_success (have : h = (rfl : false = false) := rfl))))) | (refine SL.TK.lp ?_; first | (refine SL.TK.block ?_; refine SL.TK.loopD (fun ρ L m => ρ = [(0, .slice a 0 c), (5, .int .i64 0)] ∧ L = [] ∧ m = 0) ?_ (m0 := 0) ⟨rfl, rfl, rfl⟩ (by first | ((repeat (first | exact SL.Sub.nil | refine SL.Sub.cons (by rfl) (by first | rfl | exact SL.int_eq (by omega)) ?_)); done) | fail) EntD.nil)) | (refine SL.TK.is ?_; first | refine SL.TK.seq ?_ | refine SL.TK.region ?_ | refine SL.TK.regionD SL.mixed (by simp only [SL.falses] <;> rfl) ?_ | refine SL.TK.block ?_ | refine SL.TK.inBlock ?_ | refine SL.TK.skip ?_ | refine SL.TK.scope ?_ | refine SL.TK.inScope ?_ | refine SL.TK.label ?_ | refine SL.W.exit ?_ | refine SL.W.condT ?_ | refine SL.W.condF ?_ | (refine SL.W.condP (fun h => ?_) (fun h => ?_) <;> (fail_if_success (have : h = trivial := rfl)) <;> (fail_if_success (have : h = not_false := rfl)) <;> first | contradiction | (exfalso; omega) | (exfalso; revert h; simp; done) | skip) | refine SL.W.condB (fun h => ?_) (fun h => ?_)) | (refine SL.TD.is ?_; first | (refine SL.W.dfin ?_; simp only [List.append_nil, List.cons_append, List.nil_append]) | refine SL.W.dpass ?_ | refine SL.W.dpure ?_ | refine SL.W.dload ?_ | refine SL.W.dloadA ?_ | refine SL.W.dfrz ?_ | (refine SL.W.dthaw ?_; simp only [List.append_nil, List.cons_append, List.nil_append]) | (refine SL.W.dguardP (fun h => ?_) (fun h => ?_) <;> (fail_if_success (have : h = trivial := rfl)) <;> (fail_if_success (have : h = not_false := rfl)) <;> first | contradiction | (exfalso; omega) | (exfalso; revert h; simp; done) | skip) | (refine SL.W.dguardB (fun h => ?_) (fun h => ?_) <;> (fail_if_success (have : h = (rfl : true = true) := rfl)) <;> (fail_if_success (have : h = (rfl : false = false) := rfl))) | refine SL.W.done ?_ | refine SL.W.dtwo ?_ ?_ | refine SL.W.dthree ?_ ?_ ?_))
      rintro ρ L m ⟨rfl, rfl, rfl⟩ ih
      clear ih
      repeat' (first | (refine SL.TO.is ?_; first | refine SL.TO.nil ?_ | (refine SL.TO.nilD ?_; simp only [SL.setB]) | refine SL.W.pass ?_ | refine SL.W.pass0 ?_ | (refine SL.W.pure ?_; first | refine SL.W.pv ?_ | refine SL.W.pv0 ?_ | refine SL.W.lenMp ?_ | (refine SL.W.guardP (fun h => ?_) (fun h => ?_) <;> (fail_if_success (have : h = trivial := rfl)) <;> (fail_if_success (have : h = not_false := rfl)) <;> first | contradiction | (exfalso; omega) | (exfalso; revert h; simp; done) | skip) | (refine SL.W.guardB (fun h => ?_) (fun h => ?_) <;> (fail_if_success (have : h = (rfl : true = true) := rfl)) <;> (fail_if_success (have : h = (rfl : false = false) := rfl)))) | (refine SL.W.loud ?_; first | refine SL.W.load ?_ | refine SL.W.loadA ?_ | refine SL.W.store ?_ | refine SL.W.storeA ?_ | (refine SL.W.box ?_; intro b) | (refine SL.W.alloc ?_; intro b) | (refine SL.W.buildSlice ?_; intro b) | (refine SL.W.append ?_; intro a cap) | refine SL.W.bytesToStr ?_ | refine SL.W.pvn (SL.PV.toIntC (by rfl) (by first | exact SL.wrap_i64 (by omega) | exact SL.wrap_u8 (by omega) | exact SL.wrap_u32 (by omega) | exact SL.wrap_u64 (by omega) | rfl)) ?_ | (refine SL.W.makeSlice ?_; intro b) | refine SL.W.lookupOk ?_ | refine SL.W.lookup ?_ | (refine SL.W.makeMap ?_; intro b) | refine SL.W.mapUpdate ?_ | (refine SL.W.mapEntry ?_; intro stamp) | refine SL.W.entryStore ?_ | (refine SL.W.range ?_; intro it) | refine SL.W.delete ?_ | (refine SL.W.guardP (fun h => ?_) (fun h => ?_) <;> (fail_if_success (have : h = trivial := rfl)) <;> (fail_if_success (have : h = not_false := rfl)) <;> first | contradiction | (exfalso; omega) | (exfalso; revert h; simp; done) | skip) | (refine SL.W.guardB (fun h => ?_) (fun h => ?_) <;> (fail_if_success (have : h = (rfl : true = true) := rfl)) <;> (fail_if_success (have : h = (rfl : false = false) := rfl))))) | (refine SL.TK.is ?_; first | refine SL.TK.seq ?_ | refine SL.TK.region ?_ | refine SL.TK.regionD SL.mixed (by simp only [SL.falses] <;> rfl) ?_ | refine SL.TK.block ?_ | refine SL.TK.inBlock ?_ | refine SL.TK.skip ?_ | refine SL.TK.scope ?_ | refine SL.TK.inScope ?_ | refine SL.TK.label ?_ | refine SL.W.exit ?_ | refine SL.W.condT ?_ | refine SL.W.condF ?_ | (refine SL.W.condP (fun h => ?_) (fun h => ?_) <;> (fail_if_success (have : h = trivial := rfl)) <;> (fail_if_success (have : h = not_false := rfl)) <;> first | contradiction | (exfalso; omega) | (exfalso; revert h; simp; done) | skip) | refine SL.W.condB (fun h => ?_) (fun h => ?_)) | (refine SL.TD.is ?_; first | (refine SL.W.dfin ?_; simp only [List.append_nil, List.cons_append, List.nil_append]) | refine SL.W.dpass ?_ | refine SL.W.dpure ?_ | refine SL.W.dload ?_ | refine SL.W.dloadA ?_ | refine SL.W.dfrz ?_ | (refine SL.W.dthaw ?_; simp only [List.append_nil, List.cons_append, List.nil_append]) | (refine SL.W.dguardP (fun h => ?_) (fun h => ?_) <;> (fail_if_success (have : h = trivial := rfl)) <;> (fail_if_success (have : h = not_false := rfl)) <;> first | contradiction | (exfalso; omega) | (exfalso; revert h; simp; done) | skip) | (refine SL.W.dguardB (fun h => ?_) (fun h => ?_) <;> (fail_if_success (have : h = (rfl : true = true) := rfl)) <;> (fail_if_success (have : h = (rfl : false = false) := rfl))) | refine SL.W.done ?_ | refine SL.W.dtwo ?_ ?_ | refine SL.W.dthree ?_ ?_ ?_))
      exact SL.TK.retD Try.func35 (SL.Res.one rfl (by rfl)) ⟨rfl, rfl⟩ EntD.nil
    · refine SL.Spec.of_TK Go.Proofs.Try.func35 rfl rfl SL.call35 rfl ?_
      refine SL.TK.ownPos (e := 31) (sz := 1) (a := a) (by first | ((repeat (first | exact SL.Pick.head | apply SL.Pick.tail)); done) | fail) (by omega) (fun ab ex ea e1 e2 e3 => ?_)
      subst ea
      refine SL.TK.ownPos (e := 31) (sz := 1) (a := b) (by first | ((repeat (first | exact SL.Pick.head | apply SL.Pick.tail)); done) | fail) (by omega) (fun bb ex' ea e4 e5 e6 => ?_)
      subst ea
      clear e1 e2 e4 e5
      have hH := Lib.hid (And.intro hn hm)
      clear hn hm
      repeat' (first | (refine SL.TO.is ?_; first | refine SL.TO.nil ?_ | (refine SL.TO.nilD ?_; simp only [SL.setB]) | refine SL.W.pass ?_ | refine SL.W.pass0 ?_ | (refine SL.W.pure ?_; first | refine SL.W.pv ?_ | refine SL.W.pv0 ?_ | refine SL.W.lenMp ?_ | (refine SL.W.guardP (fun h => ?_) (fun h => ?_) <;> (fail_if_success (have : h = trivial := rfl)) <;> (fail_if_success (have : h = not_false := rfl)) <;> first | contradiction | (exfalso; omega) | (exfalso; revert h; simp; done) | skip) | (refine SL.W.guardB (fun h => ?_) (fun h => ?_) <;> (fail_if_success (have : h = (rfl : true = true) := rfl)) <;> (fail_if_success (have : h = (rfl : false = false) := rfl)))) | (refine SL.W.loud ?_; first | refine SL.W.load ?_ | refine SL.W.loadA ?_ | refine SL.W.store ?_ | refine SL.W.storeA ?_ | (refine SL.W.box ?_; intro b) | (refine SL.W.alloc ?_; intro b) | (refine SL.W.buildSlice ?_; intro b) | (refine SL.W.append ?_; intro a cap) | refine SL.W.bytesToStr ?_ | refine SL.W.pvn (SL.PV.toIntC (by rfl) (by first | exact SL.wrap_i64 (by omega) | exact SL.wrap_u8 (by omega) | exact SL.wrap_u32 (by omega) | exact SL.wrap_u64 (by omega) | rfl)) ?_ | (refine SL.W.makeSlice ?_; intro b) | refine SL.W.lookupOk ?_ | refine SL.W.lookup ?_ | (refine SL.W.makeMap ?_; intro b) | refine SL.W.mapUpdate ?_ | (refine SL.W.mapEntry ?_; intro stamp) | refine SL.W.entryStore ?_ | (refine SL.W.range ?_; intro it) | refine SL.W.delete ?_ | (refine SL.W.guardP (fun h => ?_) (fun h => ?_) <;> (fail_if_success (have : h = trivial := rfl)) <;> (fail_if_success (have : h = not_false := rfl)) <;> first | contradiction | (exfalso; omega) | (exfalso; revert h; simp; done) | skip) | (refine SL.W.guardB (fun h => ?_) (fun h => ?_) <;> (fail_if_success (have : h = (rfl : true = true) := rfl)) <;> (fail_if_success (have : h = (rfl : false = false) := rfl))))) | (refine SL.TK.lp ?_; first | (refine SL.TK.block ?_; refine SL.TK.loopD (smI ab bb n c d xs ys ex ex') ?_ ⟨0, Nat.zero_le _, rfl, rfl, rfl, rfl⟩ (by first | ((repeat (first | exact SL.Sub.nil | refine SL.Sub.cons (by rfl) (by first | rfl | exact SL.int_eq (by omega)) ?_)); done) | fail) (EntD.cons (by first | ((repeat (first | exact SL.Pick.head | apply SL.Pick.tail)); done) | fail) (EntD.cons (by first | ((repeat (first | exact SL.Pick.head | apply SL.Pick.tail)); done) | fail) EntD.nil)))) | (refine SL.TK.is ?_; first | refine SL.TK.seq ?_ | refine SL.TK.region ?_ | refine SL.TK.regionD SL.mixed (by simp only [SL.falses] <;> rfl) ?_ | refine SL.TK.block ?_ | refine SL.TK.inBlock ?_ | refine SL.TK.skip ?_ | refine SL.TK.scope ?_ | refine SL.TK.inScope ?_ | refine SL.TK.label ?_ | refine SL.W.exit ?_ | refine SL.W.condT ?_ | refine SL.W.condF ?_ | (refine SL.W.condP (fun h => ?_) (fun h => ?_) <;> (fail_if_success (have : h = trivial := rfl)) <;> (fail_if_success (have : h = not_false := rfl)) <;> first | contradiction | (exfalso; omega) | (exfalso; revert h; simp; done) | skip) | refine SL.W.condB (fun h => ?_) (fun h => ?_)) | (refine SL.TD.is ?_; first | (refine SL.W.dfin ?_; simp only [List.append_nil, List.cons_append, List.nil_append]) | refine SL.W.dpass ?_ | refine SL.W.dpure ?_ | refine SL.W.dload ?_ | refine SL.W.dloadA ?_ | refine SL.W.dfrz ?_ | (refine SL.W.dthaw ?_; simp only [List.append_nil, List.cons_append, List.nil_append]) | (refine SL.W.dguardP (fun h => ?_) (fun h => ?_) <;> (fail_if_success (have : h = trivial := rfl)) <;> (fail_if_success (have : h = not_false := rfl)) <;> first | contradiction | (exfalso; omega) | (exfalso; revert h; simp; done) | skip) | (refine SL.W.dguardB (fun h => ?_) (fun h => ?_) <;> (fail_if_success (have : h = (rfl : true = true) := rfl)) <;> (fail_if_success (have : h = (rfl : false = false) := rfl))) | refine SL.W.done ?_ | refine SL.W.dtwo ?_ ?_ | refine SL.W.dthree ?_ ?_ ?_))
      rintro ρ L m ⟨i, hi, ht, rfl, rfl, rfl⟩ ih
      by_cases hlt : i < n
      · have hT := Lib.hid (take_same ht (by rw [← hH.out.1]; exact hlt) (by rw [← hH.out.2]; exact hlt))
        have hx := nth_ints (ex := ex) (show i < xs.length by rw [← hH.out.1]; exact hlt)
        have hy := nth_ints (ex := ex') (show i < ys.length by rw [← hH.out.2]; exact hlt)
        obtain ⟨x, hxx⟩ : ∃ x, x = nat_ xs i := ⟨_, rfl⟩
        obtain ⟨y, hyy⟩ : ∃ y, y = nat_ ys i := ⟨_, rfl⟩
        rw [← hxx] at hx hT
        rw [← hyy] at hy hT
        unfold iv at hx hy
        clear hxx hyy ht
        repeat' (first | (refine SL.TO.is ?_; first | (refine SL.TO.door (o := ⟨_, .load _ _, _, _, _, _⟩) ?_; first | refine SL.W.loadN hx ?_ | refine SL.W.loadN hy ?_) | refine SL.TO.nil ?_ | (refine SL.TO.nilD ?_; simp only [SL.setB]) | refine SL.W.pass ?_ | refine SL.W.pass0 ?_ | (refine SL.W.pure ?_; first | refine SL.W.pv ?_ | refine SL.W.pv0 ?_ | refine SL.W.lenMp ?_ | (refine SL.W.guardP (fun h => ?_) (fun h => ?_) <;> (fail_if_success (have : h = trivial := rfl)) <;> (fail_if_success (have : h = not_false := rfl)) <;> first | contradiction | (exfalso; omega) | (exfalso; revert h; simp; done) | skip) | (refine SL.W.guardB (fun h => ?_) (fun h => ?_) <;> (fail_if_success (have : h = (rfl : true = true) := rfl)) <;> (fail_if_success (have : h = (rfl : false = false) := rfl)))) | (refine SL.W.loud ?_; first | refine SL.W.load ?_ | refine SL.W.loadA ?_ | refine SL.W.store ?_ | refine SL.W.storeA ?_ | (refine SL.W.box ?_; intro b) | (refine SL.W.alloc ?_; intro b) | (refine SL.W.buildSlice ?_; intro b) | (refine SL.W.append ?_; intro a cap) | refine SL.W.bytesToStr ?_ | refine SL.W.pvn (SL.PV.toIntC (by rfl) (by first | exact SL.wrap_i64 (by omega) | exact SL.wrap_u8 (by omega) | exact SL.wrap_u32 (by omega) | exact SL.wrap_u64 (by omega) | rfl)) ?_ | (refine SL.W.makeSlice ?_; intro b) | refine SL.W.lookupOk ?_ | refine SL.W.lookup ?_ | (refine SL.W.makeMap ?_; intro b) | refine SL.W.mapUpdate ?_ | (refine SL.W.mapEntry ?_; intro stamp) | refine SL.W.entryStore ?_ | (refine SL.W.range ?_; intro it) | refine SL.W.delete ?_ | (refine SL.W.guardP (fun h => ?_) (fun h => ?_) <;> (fail_if_success (have : h = trivial := rfl)) <;> (fail_if_success (have : h = not_false := rfl)) <;> first | contradiction | (exfalso; omega) | (exfalso; revert h; simp; done) | skip) | (refine SL.W.guardB (fun h => ?_) (fun h => ?_) <;> (fail_if_success (have : h = (rfl : true = true) := rfl)) <;> (fail_if_success (have : h = (rfl : false = false) := rfl))))) | (refine SL.TK.is ?_; first | refine SL.TK.seq ?_ | refine SL.TK.region ?_ | refine SL.TK.regionD SL.mixed (by simp only [SL.falses] <;> rfl) ?_ | refine SL.TK.block ?_ | refine SL.TK.inBlock ?_ | refine SL.TK.skip ?_ | refine SL.TK.scope ?_ | refine SL.TK.inScope ?_ | refine SL.TK.label ?_ | refine SL.W.exit ?_ | refine SL.W.condT ?_ | refine SL.W.condF ?_ | (refine SL.W.condP (fun h => ?_) (fun h => ?_) <;> (fail_if_success (have : h = trivial := rfl)) <;> (fail_if_success (have : h = not_false := rfl)) <;> first | contradiction | (exfalso; omega) | (exfalso; revert h; simp; done) | skip) | refine SL.W.condB (fun h => ?_) (fun h => ?_)) | (refine SL.TD.is ?_; first | refine SL.W.dloadN hx ?_ | refine SL.W.dloadN hy ?_ | (refine SL.W.dfin ?_; simp only [List.append_nil, List.cons_append, List.nil_append]) | refine SL.W.dpass ?_ | refine SL.W.dpure ?_ | refine SL.W.dload ?_ | refine SL.W.dloadA ?_ | refine SL.W.dfrz ?_ | (refine SL.W.dthaw ?_; simp only [List.append_nil, List.cons_append, List.nil_append]) | (refine SL.W.dguardP (fun h => ?_) (fun h => ?_) <;> (fail_if_success (have : h = trivial := rfl)) <;> (fail_if_success (have : h = not_false := rfl)) <;> first | contradiction | (exfalso; omega) | (exfalso; revert h; simp; done) | skip) | (refine SL.W.dguardB (fun h => ?_) (fun h => ?_) <;> (fail_if_success (have : h = (rfl : true = true) := rfl)) <;> (fail_if_success (have : h = (rfl : false = false) := rfl))) | refine SL.W.done ?_ | refine SL.W.dtwo ?_ ?_ | refine SL.W.dthree ?_ ?_ ?_))
        all_goals first
          | (have hxy : ¬ x = y := by assumption
             have hne : ¬ xs = ys := fun e => hxy (hT.out.1 (by rw [e]))
             rw [decide_eq_false hne]
             exact SL.TK.retD Try.func35 (SL.Res.one rfl (by rfl)) ⟨rfl, rfl⟩ EntD.nil)
          | (have hxy : x = y := by first | assumption | (simp_all; done)
             exact SL.TK.againD ih ⟨i + 1, by omega, hT.out.2 hxy, rfl, rfl, rfl⟩ (by first | ((repeat (first | exact SL.Sub.nil | refine SL.Sub.cons (by rfl) (by first | rfl | exact SL.int_eq (by omega)) ?_)); done) | fail) (EntD.cons (by first | ((repeat (first | exact SL.Pick.head | apply SL.Pick.tail)); done) | fail) (EntD.cons (by first | ((repeat (first | exact SL.Pick.head | apply SL.Pick.tail)); done) | fail) EntD.nil)) (by omega))
      · have hin : i = n := by omega
        subst hin
        have he : xs = ys := by rw [List.take_of_length_le (by rw [← hH.out.1]; exact Nat.le_refl _), List.take_of_length_le (by rw [← hH.out.2]; exact Nat.le_refl _)] at ht; exact ht
        rw [decide_eq_true he]
        clear ih ht
        repeat' (first | (refine SL.TO.is ?_; first | refine SL.TO.nil ?_ | (refine SL.TO.nilD ?_; simp only [SL.setB]) | refine SL.W.pass ?_ | refine SL.W.pass0 ?_ | (refine SL.W.pure ?_; first | refine SL.W.pv ?_ | refine SL.W.pv0 ?_ | refine SL.W.lenMp ?_ | (refine SL.W.guardP (fun h => ?_) (fun h => ?_) <;> (fail_if_success (have : h = trivial := rfl)) <;> (fail_if_success (have : h = not_false := rfl)) <;> first | contradiction | (exfalso; omega) | (exfalso; revert h; simp; done) | skip) | (refine SL.W.guardB (fun h => ?_) (fun h => ?_) <;> (fail_if_success (have : h = (rfl : true = true) := rfl)) <;> (fail_if_success (have : h = (rfl : false = false) := rfl)))) | (refine SL.W.loud ?_; first | refine SL.W.load ?_ | refine SL.W.loadA ?_ | refine SL.W.store ?_ | refine SL.W.storeA ?_ | (refine SL.W.box ?_; intro b) | (refine SL.W.alloc ?_; intro b) | (refine SL.W.buildSlice ?_; intro b) | (refine SL.W.append ?_; intro a cap) | refine SL.W.bytesToStr ?_ | refine SL.W.pvn (SL.PV.toIntC (by rfl) (by first | exact SL.wrap_i64 (by omega) | exact SL.wrap_u8 (by omega) | exact SL.wrap_u32 (by omega) | exact SL.wrap_u64 (by omega) | rfl)) ?_ | (refine SL.W.makeSlice ?_; intro b) | refine SL.W.lookupOk ?_ | refine SL.W.lookup ?_ | (refine SL.W.makeMap ?_; intro b) | refine SL.W.mapUpdate ?_ | (refine SL.W.mapEntry ?_; intro stamp) | refine SL.W.entryStore ?_ | (refine SL.W.range ?_; intro it) | refine SL.W.delete ?_ | (refine SL.W.guardP (fun h => ?_) (fun h => ?_) <;> (fail_if_success (have : h = trivial := rfl)) <;> (fail_if_success (have : h = not_false := rfl)) <;> first | contradiction | (exfalso; omega) | (exfalso; revert h; simp; done) | skip) | (refine SL.W.guardB (fun h => ?_) (fun h => ?_) <;> (fail_if_success (have : h = (rfl : true = true) := rfl)) <;> (fail_if_success (have : h = (rfl : false = false) := rfl))))) | (refine SL.TK.is ?_; first | refine SL.TK.seq ?_ | refine SL.TK.region ?_ | refine SL.TK.regionD SL.mixed (by simp only [SL.falses] <;> rfl) ?_ | refine SL.TK.block ?_ | refine SL.TK.inBlock ?_ | refine SL.TK.skip ?_ | refine SL.TK.scope ?_ | refine SL.TK.inScope ?_ | refine SL.TK.label ?_ | refine SL.W.exit ?_ | refine SL.W.condT ?_ | refine SL.W.condF ?_ | (refine SL.W.condP (fun h => ?_) (fun h => ?_) <;> (fail_if_success (have : h = trivial := rfl)) <;> (fail_if_success (have : h = not_false := rfl)) <;> first | contradiction | (exfalso; omega) | (exfalso; revert h; simp; done) | skip) | refine SL.W.condB (fun h => ?_) (fun h => ?_)) | (refine SL.TD.is ?_; first | (refine SL.W.dfin ?_; simp only [List.append_nil, List.cons_append, List.nil_append]) | refine SL.W.dpass ?_ | refine SL.W.dpure ?_ | refine SL.W.dload ?_ | refine SL.W.dloadA ?_ | refine SL.W.dfrz ?_ | (refine SL.W.dthaw ?_; simp only [List.append_nil, List.cons_append, List.nil_append]) | (refine SL.W.dguardP (fun h => ?_) (fun h => ?_) <;> (fail_if_success (have : h = trivial := rfl)) <;> (fail_if_success (have : h = not_false := rfl)) <;> first | contradiction | (exfalso; omega) | (exfalso; revert h; simp; done) | skip) | (refine SL.W.dguardB (fun h => ?_) (fun h => ?_) <;> (fail_if_success (have : h = (rfl : true = true) := rfl)) <;> (fail_if_success (have : h = (rfl : false = false) := rfl))) | refine SL.W.done ?_ | refine SL.W.dtwo ?_ ?_ | refine SL.W.dthree ?_ ?_ ?_))
        exact SL.TK.retD Try.func35 (SL.Res.one rfl (by rfl)) ⟨rfl, rfl⟩ EntD.nil
  · have hne : ¬ xs = ys := fun e => hnm (by rw [hn, hm, e])
    rw [decide_eq_false hne]
    clear hn hm hne
    refine SL.Spec.of_TK Go.Proofs.Try.func35 rfl rfl SL.call35 rfl ?_
    repeat' (first | (refine SL.TO.is ?_; first | refine SL.TO.nil ?_ | (refine SL.TO.nilD ?_; simp only [SL.setB]) | refine SL.W.pass ?_ | refine SL.W.pass0 ?_ | (refine SL.W.pure ?_; first | refine SL.W.pv ?_ | refine SL.W.pv0 ?_ | refine SL.W.lenMp ?_ | (refine SL.W.guardP (fun h => ?_) (fun h => ?_) <;> (fail_if_success (have : h = trivial := rfl)) <;> (fail_if_success (have : h = not_false := rfl)) <;> first | contradiction | (exfalso; omega) | (exfalso; revert h; simp; done) | skip) | (refine SL.W.guardB (fun h => ?_) (fun h => ?_) <;> (fail_if_success (have : h = (rfl : true = true) := rfl)) <;> (fail_if_success (have : h = (rfl : false = false) := rfl)))) | (refine SL.W.loud ?_; first | refine SL.W.load ?_ | refine SL.W.loadA ?_ | refine SL.W.store ?_ | refine SL.W.storeA ?_ | (refine SL.W.box ?_; intro b) | (refine SL.W.alloc ?_; intro b) | (refine SL.W.buildSlice ?_; intro b) | (refine SL.W.append ?_; intro a cap) | refine SL.W.bytesToStr ?_ | refine SL.W.pvn (SL.PV.toIntC (by rfl) (by first | exact SL.wrap_i64 (by omega) | exact SL.wrap_u8 (by omega) | exact SL.wrap_u32 (by omega) | exact SL.wrap_u64 (by omega) | rfl)) ?_ | (refine SL.W.makeSlice ?_; intro b) | refine SL.W.lookupOk ?_ | refine SL.W.lookup ?_ | (refine SL.W.makeMap ?_; intro b) | refine SL.W.mapUpdate ?_ | (refine SL.W.mapEntry ?_; intro stamp) | refine SL.W.entryStore ?_ | (refine SL.W.range ?_; intro it) | refine SL.W.delete ?_ | (refine SL.W.guardP (fun h => ?_) (fun h => ?_) <;> (fail_if_success (have : h = trivial := rfl)) <;> (fail_if_success (have : h = not_false := rfl)) <;> first | contradiction | (exfalso; omega) | (exfalso; revert h; simp; done) | skip) | (refine SL.W.guardB (fun h => ?_) (fun h => ?_) <;> (fail_if_success (have : h = (rfl : true = true) := rfl)) <;> (fail_if_success (have : h = (rfl : false = false) := rfl))))) | (refine SL.TK.is ?_; first | refine SL.TK.seq ?_ | refine SL.TK.region ?_ | refine SL.TK.regionD SL.mixed (by simp only [SL.falses] <;> rfl) ?_ | refine SL.TK.block ?_ | refine SL.TK.inBlock ?_ | refine SL.TK.skip ?_ | refine SL.TK.scope ?_ | refine SL.TK.inScope ?_ | refine SL.TK.label ?_ | refine SL.W.exit ?_ | refine SL.W.condT ?_ | refine SL.W.condF ?_ | (refine SL.W.condP (fun h => ?_) (fun h => ?_) <;> (fail_if_success (have : h = trivial := rfl)) <;> (fail_if_success (have : h = not_false := rfl)) <;> first | contradiction | (exfalso; omega) | (exfalso; revert h; simp; done) | skip) | refine SL.W.condB (fun h => ?_) (fun h => ?_)) | (refine SL.TD.is ?_; first | (refine SL.W.dfin ?_; simp only [List.append_nil, List.cons_append, List.nil_append]) | refine SL.W.dpass ?_ | refine SL.W.dpure ?_ | refine SL.W.dload ?_ | refine SL.W.dloadA ?_ | refine SL.W.dfrz ?_ | (refine SL.W.dthaw ?_; simp only [List.append_nil, List.cons_append, List.nil_append]) | (refine SL.W.dguardP (fun h => ?_) (fun h => ?_) <;> (fail_if_success (have : h = trivial := rfl)) <;> (fail_if_success (have : h = not_false := rfl)) <;> first | contradiction | (exfalso; omega) | (exfalso; revert h; simp; done) | skip) | (refine SL.W.dguardB (fun h => ?_) (fun h => ?_) <;> (fail_if_success (have : h = (rfl : true = true) := rfl)) <;> (fail_if_success (have : h = (rfl : false = false) := rfl))) | refine SL.W.done ?_ | refine SL.W.dtwo ?_ ?_ | refine SL.W.dthree ?_ ?_ ?_))
    all_goals exact SL.TK.retD Try.func35 (SL.Res.one rfl (by rfl)) ⟨rfl, rfl⟩ EntD.nil

theorem mapsClone_ext (mb : Nat) (T : As2) : Ext Try.prog 63 [.iface 100 (.map (some mb))] [mp (Value.int .u32) mb (pv T)] (fun r L => ∃ b, r = .iface 100 (.map (some b)) ∧ L = [mp (Value.int .u32) b (pv T), mp (Value.int .u32) mb (pv T)]) :=
  Ext.clone Try.func63 (by kernel_rfl) (by kernel_rfl) (by kernel_rfl) (by kernel_rfl)
theorem clone_spec (mb : Nat) (T : As2) : Spec Try.prog 58 [.map (some mb)] [mp (Value.int .u32) mb (pv T)] (fun r L => ∃ b, r = .map (some b) ∧ L = [mp (Value.int .u32) b (pv T), mp (Value.int .u32) mb (pv T)]) := by
  have hE := Lib.hid (mapsClone_ext mb T)
  refine SL.Spec.of_TK Go.Proofs.Try.func58 rfl rfl SL.call58 rfl ?_
  repeat' (first | (refine SL.TO.is ?_; first | (refine SL.TO.door (o := ⟨_, .makeInterface _ _, _, _, _, _⟩) ?_; refine SL.W.pvn (PV.ifaceM (by rfl)) ?_) | (refine SL.TO.door (o := ⟨_, .typeAssert _ _ _ _, _, _, _, _⟩) ?_; refine SL.W.pvn (PV.assertM (by rfl)) ?_) | (refine SL.TO.door (o := ⟨_, .call ⟨.value (.func 63), _, _⟩, _, _, _, _⟩) ?_; first | (refine SL.W.callExt hE.out ?_; rintro _ _ ⟨b7, rfl, rfl⟩; try simp only [List.cons_append, List.nil_append])) | refine SL.TO.nil ?_ | (refine SL.TO.nilD ?_; simp only [SL.setB]) | refine SL.W.pass ?_ | refine SL.W.pass0 ?_ | (refine SL.W.pure ?_; first | refine SL.W.pv ?_ | refine SL.W.pv0 ?_ | refine SL.W.lenMp ?_ | (refine SL.W.guardP (fun h => ?_) (fun h => ?_) <;> (fail_if_success (have : h = trivial := rfl)) <;> (fail_if_success (have : h = not_false := rfl)) <;> first | contradiction | (exfalso; omega) | (exfalso; revert h; simp; done) | skip) | (refine SL.W.guardB (fun h => ?_) (fun h => ?_) <;> (fail_if_success (have : h = (rfl : true = true) := rfl)) <;> (fail_if_success (have : h = (rfl : false = false) := rfl)))) | (refine SL.W.loud ?_; first | refine SL.W.load ?_ | refine SL.W.loadA ?_ | refine SL.W.store ?_ | refine SL.W.storeA ?_ | (refine SL.W.box ?_; intro b) | (refine SL.W.alloc ?_; intro b) | (refine SL.W.buildSlice ?_; intro b) | (refine SL.W.append ?_; intro a cap) | refine SL.W.bytesToStr ?_ | refine SL.W.pvn (SL.PV.toIntC (by rfl) (by first | exact SL.wrap_i64 (by omega) | exact SL.wrap_u8 (by omega) | exact SL.wrap_u32 (by omega) | exact SL.wrap_u64 (by omega) | rfl)) ?_ | (refine SL.W.makeSlice ?_; intro b) | refine SL.W.lookupOk ?_ | refine SL.W.lookup ?_ | (refine SL.W.makeMap ?_; intro b) | refine SL.W.mapUpdate ?_ | (refine SL.W.mapEntry ?_; intro stamp) | refine SL.W.entryStore ?_ | (refine SL.W.range ?_; intro it) | refine SL.W.delete ?_ | (refine SL.W.guardP (fun h => ?_) (fun h => ?_) <;> (fail_if_success (have : h = trivial := rfl)) <;> (fail_if_success (have : h = not_false := rfl)) <;> first | contradiction | (exfalso; omega) | (exfalso; revert h; simp; done) | skip) | (refine SL.W.guardB (fun h => ?_) (fun h => ?_) <;> (fail_if_success (have : h = (rfl : true = true) := rfl)) <;> (fail_if_success (have : h = (rfl : false = false) := rfl))))) | (refine SL.TK.is ?_; first | refine SL.TK.seq ?_ | refine SL.TK.region ?_ | refine SL.TK.regionD SL.mixed (by simp only [SL.falses] <;> rfl) ?_ | refine SL.TK.block ?_ | refine SL.TK.inBlock ?_ | refine SL.TK.skip ?_ | refine SL.TK.scope ?_ | refine SL.TK.inScope ?_ | refine SL.TK.label ?_ | refine SL.W.exit ?_ | refine SL.W.condT ?_ | refine SL.W.condF ?_ | (refine SL.W.condP (fun h => ?_) (fun h => ?_) <;> (fail_if_success (have : h = trivial := rfl)) <;> (fail_if_success (have : h = not_false := rfl)) <;> first | contradiction | (exfalso; omega) | (exfalso; revert h; simp; done) | skip) | refine SL.W.condB (fun h => ?_) (fun h => ?_)) | (refine SL.TD.is ?_; first | (refine SL.W.dfin ?_; simp only [List.append_nil, List.cons_append, List.nil_append]) | refine SL.W.dpass ?_ | refine SL.W.dpure ?_ | refine SL.W.dload ?_ | refine SL.W.dloadA ?_ | refine SL.W.dfrz ?_ | (refine SL.W.dthaw ?_; simp only [List.append_nil, List.cons_append, List.nil_append]) | (refine SL.W.dguardP (fun h => ?_) (fun h => ?_) <;> (fail_if_success (have : h = trivial := rfl)) <;> (fail_if_success (have : h = not_false := rfl)) <;> first | contradiction | (exfalso; omega) | (exfalso; revert h; simp; done) | skip) | (refine SL.W.dguardB (fun h => ?_) (fun h => ?_) <;> (fail_if_success (have : h = (rfl : true = true) := rfl)) <;> (fail_if_success (have : h = (rfl : false = false) := rfl))) | refine SL.W.done ?_ | refine SL.W.dtwo ?_ ?_ | refine SL.W.dthree ?_ ?_ ?_))
  all_goals exact SL.TK.retD Try.func58 (SL.Res.one rfl (by rfl)) ⟨_, rfl, rfl⟩ (EntD.cons (by first | ((repeat (first | exact SL.Pick.head | apply SL.Pick.tail)); done) | fail) (EntD.cons (by first | ((repeat (first | exact SL.Pick.head | apply SL.Pick.tail)); done) | fail) EntD.nil))
theorem lsCopy_spec (nb : Nat) (T : As2) : Spec Try.prog 37 [.pointer (some ⟨nb, 0, none⟩)] [LeasesAt nb T] (fun r L => ∃ cb, r = .pointer (some ⟨cb, 0, none⟩) ∧ L = [LeasesAt cb T, LeasesAt nb T]) := by
  refine SL.Spec.of_TK Go.Proofs.Try.func37 rfl rfl SL.call37 rfl ?_
  refine SL.TK.openLs (by first | ((repeat (first | exact SL.Pick.head | apply SL.Pick.tail)); done) | fail) (fun mb => ?_)
  repeat' (first | (refine SL.TO.is ?_; first | (refine SL.TO.door (o := ⟨_, .call ⟨.value (.func 53), _, _⟩, _, _, _, _⟩) ?_; first | (refine SL.W.call (lsNone_spec _ _) ?_; rintro _ _ ⟨rfl, rfl⟩; try simp only [List.cons_append, List.nil_append])) | (refine SL.TO.door (o := ⟨_, .call ⟨.value (.func 58), _, _⟩, _, _, _, _⟩) ?_; first | (refine SL.W.call (clone_spec _ _) ?_; rintro _ _ ⟨b8, rfl, rfl⟩; try simp only [List.cons_append, List.nil_append])) | refine SL.TO.nil ?_ | (refine SL.TO.nilD ?_; simp only [SL.setB]) | refine SL.W.pass ?_ | refine SL.W.pass0 ?_ | (refine SL.W.pure ?_; first | refine SL.W.pv ?_ | refine SL.W.pv0 ?_ | refine SL.W.lenMp ?_ | (refine SL.W.guardP (fun h => ?_) (fun h => ?_) <;> (fail_if_success (have : h = trivial := rfl)) <;> (fail_if_success (have : h = not_false := rfl)) <;> first | contradiction | (exfalso; omega) | (exfalso; revert h; simp; done) | skip) | (refine SL.W.guardB (fun h => ?_) (fun h => ?_) <;> (fail_if_success (have : h = (rfl : true = true) := rfl)) <;> (fail_if_success (have : h = (rfl : false = false) := rfl)))) | (refine SL.W.loud ?_; first | refine SL.W.load ?_ | refine SL.W.loadA ?_ | refine SL.W.store ?_ | refine SL.W.storeA ?_ | (refine SL.W.box ?_; intro b) | (refine SL.W.alloc ?_; intro b) | (refine SL.W.buildSlice ?_; intro b) | (refine SL.W.append ?_; intro a cap) | refine SL.W.bytesToStr ?_ | refine SL.W.pvn (SL.PV.toIntC (by rfl) (by first | exact SL.wrap_i64 (by omega) | exact SL.wrap_u8 (by omega) | exact SL.wrap_u32 (by omega) | exact SL.wrap_u64 (by omega) | rfl)) ?_ | (refine SL.W.makeSlice ?_; intro b) | refine SL.W.lookupOk ?_ | refine SL.W.lookup ?_ | (refine SL.W.makeMap ?_; intro b) | refine SL.W.mapUpdate ?_ | (refine SL.W.mapEntry ?_; intro stamp) | refine SL.W.entryStore ?_ | (refine SL.W.range ?_; intro it) | refine SL.W.delete ?_ | (refine SL.W.guardP (fun h => ?_) (fun h => ?_) <;> (fail_if_success (have : h = trivial := rfl)) <;> (fail_if_success (have : h = not_false := rfl)) <;> first | contradiction | (exfalso; omega) | (exfalso; revert h; simp; done) | skip) | (refine SL.W.guardB (fun h => ?_) (fun h => ?_) <;> (fail_if_success (have : h = (rfl : true = true) := rfl)) <;> (fail_if_success (have : h = (rfl : false = false) := rfl))))) | (refine SL.TK.is ?_; first | refine SL.TK.seq ?_ | refine SL.TK.region ?_ | refine SL.TK.regionD SL.mixed (by simp only [SL.falses] <;> rfl) ?_ | refine SL.TK.block ?_ | refine SL.TK.inBlock ?_ | refine SL.TK.skip ?_ | refine SL.TK.scope ?_ | refine SL.TK.inScope ?_ | refine SL.TK.label ?_ | refine SL.W.exit ?_ | refine SL.W.condT ?_ | refine SL.W.condF ?_ | (refine SL.W.condP (fun h => ?_) (fun h => ?_) <;> (fail_if_success (have : h = trivial := rfl)) <;> (fail_if_success (have : h = not_false := rfl)) <;> first | contradiction | (exfalso; omega) | (exfalso; revert h; simp; done) | skip) | refine SL.W.condB (fun h => ?_) (fun h => ?_)) | (refine SL.TD.is ?_; first | (refine SL.W.dfin ?_; simp only [List.append_nil, List.cons_append, List.nil_append]) | refine SL.W.dpass ?_ | refine SL.W.dpure ?_ | refine SL.W.dload ?_ | refine SL.W.dloadA ?_ | refine SL.W.dfrz ?_ | (refine SL.W.dthaw ?_; simp only [List.append_nil, List.cons_append, List.nil_append]) | (refine SL.W.dguardP (fun h => ?_) (fun h => ?_) <;> (fail_if_success (have : h = trivial := rfl)) <;> (fail_if_success (have : h = not_false := rfl)) <;> first | contradiction | (exfalso; omega) | (exfalso; revert h; simp; done) | skip) | (refine SL.W.dguardB (fun h => ?_) (fun h => ?_) <;> (fail_if_success (have : h = (rfl : true = true) := rfl)) <;> (fail_if_success (have : h = (rfl : false = false) := rfl))) | refine SL.W.done ?_ | refine SL.W.dtwo ?_ ?_ | refine SL.W.dthree ?_ ?_ ?_))
  all_goals exact SL.TK.retD Try.func37 (SL.Res.one rfl (by rfl)) ⟨_, rfl, rfl⟩ (EntD.frm (by first | ((repeat (first | exact SL.Frm.nil | exact SL.Frm.refl | (apply SL.Frm.cons; repeat (first | exact SL.Pick.head | apply SL.Pick.tail)))); done) | fail) ls_shut (EntD.frm (by first | ((repeat (first | exact SL.Frm.nil | exact SL.Frm.refl | (apply SL.Frm.cons; repeat (first | exact SL.Pick.head | apply SL.Pick.tail)))); done) | fail) ls_shut EntD.nil))
end SL
