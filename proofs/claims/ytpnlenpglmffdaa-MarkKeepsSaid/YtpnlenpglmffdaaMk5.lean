/-
  The contract of Go: all places go with a row.
-/
import Derived.Test.YtpnlenpglmffdaaMk4
set_option linter.unusedVariables false
set_option linter.unusedSimpArgs false
set_option maxRecDepth 10000
namespace SL
open Go Go.Proofs Go.RowKit

/-- those places that were handled have gone -/
def goT (us : List Un) (done : List Int) (T : As2) : As2 := T.map fun p => (p.1, if p.1 ∈ done then placeU p.2 us else p.2)
def goA (us : List Un) (T : As2) : As2 := T.map fun p => (p.1, placeU p.2 us)
theorem goT_keys (us : List Un) (done : List Int) (T : As2) : (goT us done T).map (·.1) = T.map (·.1) := by simp [goT]
theorem goA_keys (us : List Un) (T : As2) : (goA us T).map (·.1) = T.map (·.1) := by simp [goA]
theorem goT_nil (us : List Un) (T : As2) : goT us [] T = T := by simp [goT]
theorem goT_all {us : List Un} {done : List Int} {T : As2} (h : ∀ p ∈ T, p.1 ∈ done) : goT us done T = goA us T := by
  unfold goT goA
  exact List.map_congr_left fun p hp => by rw [if_pos (h p hp)]
theorem lkp_goA (us : List Un) (q : Int) (T : As2) : lkp q (goA us T) = (lkp q T).map fun p => placeU p us := by
  induction T with
  | nil => rfl
  | cons p T ih =>
    simp only [goA, List.map_cons, lkp] at ih ⊢
    split
    · rfl
    · exact ih
theorem goA_append (a b : List Un) (T : As2) : goA (a ++ b) T = goA b (goA a T) := by simp [goA, placeU_append]
theorem mem_pv_goT {us : List Un} {done : List Int} {T : As2} {q : Int} {v : Value} (h : (q, v) ∈ pv (goT us done T)) (hd : q ∉ done) : ∃ p, (q, p) ∈ T ∧ v = .int .i64 p := by
  unfold pv goT at h
  simp only [List.map_map, List.mem_map, Function.comp_apply, Prod.mk.injEq] at h
  obtain ⟨p, hp, rfl, rfl⟩ := h
  exact ⟨p.2, hp, by rw [if_neg hd]⟩
theorem lkp_some_of {T : As2} {q p : Int} (h : (q, p) ∈ T) : (lkp q T).isSome = true := by
  induction T with
  | nil => simp at h
  | cons x T ih =>
    simp only [lkp]
    split
    · rfl
    · rename_i hne
      rcases List.mem_cons.1 h with h | h
      · subst h; exact absurd rfl hne
      · exact ih h
theorem get_some_mem {l : List (Int × Value)} {q : Int} {v : Value} (h : (q, v) ∈ l) : (get q l).isSome = true := by
  induction l with
  | nil => simp at h
  | cons x T ih =>
    simp only [get]
    split
    · rfl
    · rename_i hne
      rcases List.mem_cons.1 h with h | h
      · subst h; exact absurd rfl hne
      · exact ih h
theorem iup_goT {us : List Un} {done : List Int} {q p : Int} : ∀ {T : As2}, (T.map (·.1)).Nodup → (q, p) ∈ T → q ∉ done → iup q (placeU p us) (goT us done T) = goT us (q :: done) T
  | [], _, h, _ => by simp at h
  | x :: T, hn, h, hd => by
    have hn' := List.nodup_cons.1 (by simpa using hn : (x.1 :: T.map (·.1)).Nodup)
    simp only [goT, List.map_cons, iup]
    by_cases e : x.1 = q
    · rw [if_pos e]
      have hx : x = (q, p) := by
        rcases List.mem_cons.1 h with h | h
        · exact h.symm
        · exact absurd (List.mem_map.2 ⟨_, h, rfl⟩) (by rw [e] at hn'; exact hn'.1)
      subst hx
      simp only [List.mem_cons, true_or, if_true, List.cons.injEq, true_and]
      refine List.map_congr_left fun y hy => ?_
      have : y.1 ≠ q := fun c => hn'.1 (by rw [e, ← c]; exact List.mem_map.2 ⟨_, hy, rfl⟩)
      simp [this]
    · rw [if_neg e]
      have h2 : (q, p) ∈ T := by
        rcases List.mem_cons.1 h with h | h
        · exact absurd (by rw [← h]) e
        · exact h
      have ih := iup_goT (us := us) hn'.2 h2 hd
      unfold goT at ih
      rw [ih]
      simp [e]
attribute [local irreducible] SL.TK SL.TO SL.TD SL.PV SL.Pick SL.Frm SL.Ent SL.Sub SL.EvAll SL.seps SL.sep SL.Cut SL.PutAt SL.blk SL.EvP SL.Fill SL.Src SL.EntD SL.own SL.ex SL.fact SL.orig

def goInv (X : HProp) (a : Option Addr) (cap nb mb it : Nat) (m : Int) (us : List Un) (T : As2) (ρ : Env) (L : List HProp) (μ : Nat) : Prop := ∃ done : List Int, μ = (pv (goT us done T)).countP (fun p => !done.contains p.1) ∧
  ρ = [(0, .pointer (some ⟨nb, 0, none⟩)), (1, .slice a us.length cap), (31, .pointer (some ⟨it, 0, none⟩))] ∧
  L = [X, SL.blk nb 65 [.int .i64 m, .map (some mb)], mpI (Value.int .u32) mb (pv (goT us done T)) (some (it, done))]
theorem cnt_keys (l : List (Int × Value)) (done : List Int) : l.countP (fun p => !done.contains p.1) = (l.map (·.1)).countP (fun k => !done.contains k) := by
  rw [List.countP_map]; rfl
theorem mkGo_spec {X : HProp} (a : Option Addr) (cap nb : Nat) (long : Int) (us : List Un) (T : As2) (hX : RowX X a us) (hl : us.length ≤ 1000000) (hn : -9223372036854775808 ≤ long ∧ long ≤ 1099511627776) (hT : ∀ p ∈ T, -1000000000000 ≤ p.2 ∧ p.2 ≤ 1099511627776) :
    Spec Try.prog 16 [.pointer (some ⟨nb, 0, none⟩), .slice a us.length cap] [MarksAt nb long T, X]
    (fun r L => r = .int .i64 (longR us long).2 ∧ L = [MarksAt nb (if (longR us long).2 = 0 then (longR us long).1 else long) (if (longR us long).2 = 0 then goA us T else T), X]) := by
  have hlong := long_spec a cap us long hX hl hn
  obtain ⟨m, e, hme⟩ : ∃ m e, longR us long = (m, e) := ⟨_, _, rfl⟩
  rw [hme] at hlong ⊢
  simp only at hlong ⊢
  have hplace (p : Int) (h : -1000000000000 ≤ p ∧ p ≤ 1099511627776) := place_spec a cap us p hX hl h
  clear hX hme
  refine SL.Spec.of_TK Go.Proofs.Try.func16 rfl rfl SL.call16 rfl ?_
  refine SL.TK.openMk (by first | ((repeat (first | exact SL.Pick.head | apply SL.Pick.tail)); done) | fail) (fun mb => ?_)
  refine SL.TK.mpNodup (by first | ((repeat (first | exact SL.Pick.head | apply SL.Pick.tail)); done) | fail) (fun hnd => ?_)
  rw [pv_keys] at hnd
  have hHH := Lib.hid (And.intro hnd hT)
  have hpl := Lib.hid hplace
  clear hnd hT hplace
  by_cases he : e = 0
  · subst he
    rw [if_pos rfl, if_pos rfl, show pv T = pv (goT us [] T) from by rw [goT_nil]]
    repeat' (first | (refine SL.TO.is ?_; first | (refine SL.TO.door (o := ⟨_, .call ⟨.value (.func 42), _, _⟩, _, _, _, _⟩) ?_; first | (refine SL.W.call (mkNone_spec _ _ _) ?_; rintro _ _ ⟨rfl, rfl⟩; try simp only [List.cons_append, List.nil_append])) | (refine SL.TO.door (o := ⟨_, .call ⟨.value (.func 15), _, _⟩, _, _, _, _⟩) ?_; first | (refine SL.W.call (hlong) ?_; rintro _ _ ⟨rfl, rfl⟩; try simp only [List.cons_append, List.nil_append])) | refine SL.TO.nil ?_ | (refine SL.TO.nilD ?_; simp only [SL.setB]) | refine SL.W.pass ?_ | refine SL.W.pass0 ?_ | (refine SL.W.pure ?_; first | refine SL.W.pv ?_ | refine SL.W.pv0 ?_ | refine SL.W.lenMp ?_) | (refine SL.W.loud ?_; first | refine SL.W.load ?_ | refine SL.W.loadA ?_ | refine SL.W.store ?_ | refine SL.W.storeA ?_ | (refine SL.W.box ?_; intro b) | (refine SL.W.alloc ?_; intro b) | (refine SL.W.buildSlice ?_; intro b) | (refine SL.W.append ?_; intro a cap) | refine SL.W.bytesToStr ?_ | refine SL.W.pvn (SL.PV.toIntC (by rfl) (by first | exact SL.wrap_i64 (by omega) | exact SL.wrap_u8 (by omega) | exact SL.wrap_u32 (by omega) | exact SL.wrap_u64 (by omega) | rfl)) ?_ | (refine SL.W.makeSlice ?_; intro b) | refine SL.W.lookupOk ?_ | refine SL.W.lookup ?_ | (refine SL.W.makeMap ?_; intro b) | refine SL.W.mapUpdate ?_ | (refine SL.W.mapEntry ?_; intro stamp) | refine SL.W.entryStore ?_ | (refine SL.W.range ?_; intro it) | refine SL.W.delete ?_) | (refine SL.W.guardP (fun h => ?_) (fun h => ?_) <;> (fail_if_success (have : h = trivial := rfl)) <;> (fail_if_success (have : h = not_false := rfl)) <;> first | contradiction | (exfalso; omega) | (exfalso; revert h; simp; done) | skip) | (refine SL.W.guardB (fun h => ?_) (fun h => ?_) <;> (fail_if_success (have : h = (rfl : true = true) := rfl)) <;> (fail_if_success (have : h = (rfl : false = false) := rfl)))) | (refine SL.TK.lp ?_; first | (refine SL.TK.block ?_; refine SL.TK.loopD (goInv X a cap nb mb it m us T) ?_ ⟨[], rfl, rfl, rfl⟩ (by first | ((repeat (first | exact SL.Sub.nil | refine SL.Sub.cons (by rfl) (by first | rfl | exact SL.int_eq (by omega)) ?_)); done) | fail) (EntD.cons (by first | ((repeat (first | exact SL.Pick.head | apply SL.Pick.tail)); done) | fail) (EntD.cons (by first | ((repeat (first | exact SL.Pick.head | apply SL.Pick.tail)); done) | fail) (EntD.cons (by first | ((repeat (first | exact SL.Pick.head | apply SL.Pick.tail)); done) | fail) EntD.nil))))) | (refine SL.TK.is ?_; first | refine SL.TK.seq ?_ | refine SL.TK.region ?_ | refine SL.TK.regionD SL.mixed (by simp only [SL.falses] <;> rfl) ?_ | refine SL.TK.block ?_ | refine SL.TK.inBlock ?_ | refine SL.TK.skip ?_ | refine SL.TK.scope ?_ | refine SL.TK.inScope ?_ | refine SL.TK.label ?_ | refine SL.W.exit ?_ | refine SL.W.condT ?_ | refine SL.W.condF ?_ | (refine SL.W.condP (fun h => ?_) (fun h => ?_) <;> (fail_if_success (have : h = trivial := rfl)) <;> (fail_if_success (have : h = not_false := rfl)) <;> first | contradiction | (exfalso; omega) | (exfalso; revert h; simp; done) | skip) | refine SL.W.condB (fun h => ?_) (fun h => ?_)) | (refine SL.TD.is ?_; first | (refine SL.W.dfin ?_; simp only [List.append_nil, List.cons_append, List.nil_append]) | refine SL.W.dpass ?_ | refine SL.W.dpure ?_ | refine SL.W.dload ?_ | refine SL.W.dloadA ?_ | refine SL.W.dfrz ?_ | (refine SL.W.dthaw ?_; simp only [List.append_nil, List.cons_append, List.nil_append]) | (refine SL.W.dguardP (fun h => ?_) (fun h => ?_) <;> (fail_if_success (have : h = trivial := rfl)) <;> (fail_if_success (have : h = not_false := rfl)) <;> first | contradiction | (exfalso; omega) | (exfalso; revert h; simp; done) | skip) | (refine SL.W.dguardB (fun h => ?_) (fun h => ?_) <;> (fail_if_success (have : h = (rfl : true = true) := rfl)) <;> (fail_if_success (have : h = (rfl : false = false) := rfl))) | refine SL.W.done ?_ | refine SL.W.dtwo ?_ ?_ | refine SL.W.dthree ?_ ?_ ?_))
    clear hlong
    rintro ρ L μ ⟨done, rfl, rfl, rfl⟩ ih
    repeat' (first | (refine SL.TO.is ?_; first | (refine SL.W.next (fun hend => ?_) (fun q v hqv hqd => ?_); rotate_left; obtain ⟨p, hp, rfl⟩ := mem_pv_goT hqv hqd; have hb := hpl.out p (hHH.out.2 _ hp); have hsome := get_some_mem hqv; rotate_left) | refine SL.W.entry ?_ | (refine SL.TO.door (o := ⟨_, .call ⟨.value (.func 18), _, _⟩, _, _, _, _⟩) ?_; first | (refine SL.W.call (hb) ?_; rintro _ _ ⟨rfl, rfl⟩; try simp only [List.cons_append, List.nil_append])) | refine SL.TO.nil ?_ | (refine SL.TO.nilD ?_; simp only [SL.setB]) | refine SL.W.pass ?_ | refine SL.W.pass0 ?_ | (refine SL.W.pure ?_; first | refine SL.W.pv ?_ | refine SL.W.pv0 ?_ | refine SL.W.lenMp ?_) | (refine SL.W.loud ?_; first | refine SL.W.load ?_ | refine SL.W.loadA ?_ | refine SL.W.store ?_ | refine SL.W.storeA ?_ | (refine SL.W.box ?_; intro b) | (refine SL.W.alloc ?_; intro b) | (refine SL.W.buildSlice ?_; intro b) | (refine SL.W.append ?_; intro a cap) | refine SL.W.bytesToStr ?_ | refine SL.W.pvn (SL.PV.toIntC (by rfl) (by first | exact SL.wrap_i64 (by omega) | exact SL.wrap_u8 (by omega) | exact SL.wrap_u32 (by omega) | exact SL.wrap_u64 (by omega) | rfl)) ?_ | (refine SL.W.makeSlice ?_; intro b) | refine SL.W.lookupOk ?_ | refine SL.W.lookup ?_ | (refine SL.W.makeMap ?_; intro b) | refine SL.W.mapUpdate ?_ | (refine SL.W.mapEntry ?_; intro stamp) | refine SL.W.entryStore ?_ | (refine SL.W.range ?_; intro it) | refine SL.W.delete ?_) | (refine SL.W.guardP (fun h => ?_) (fun h => ?_) <;> (fail_if_success (have : h = trivial := rfl)) <;> (fail_if_success (have : h = not_false := rfl)) <;> first | contradiction | (exfalso; omega) | (exfalso; revert h; simp; done) | skip) | (refine SL.W.guardB (fun h => ?_) (fun h => ?_) <;> (fail_if_success (have : h = (rfl : true = true) := rfl)) <;> (fail_if_success (have : h = (rfl : false = false) := rfl)))) | (refine SL.TK.is ?_; first | refine SL.TK.seq ?_ | refine SL.TK.region ?_ | refine SL.TK.regionD SL.mixed (by simp only [SL.falses] <;> rfl) ?_ | refine SL.TK.block ?_ | refine SL.TK.inBlock ?_ | refine SL.TK.skip ?_ | refine SL.TK.scope ?_ | refine SL.TK.inScope ?_ | refine SL.TK.label ?_ | refine SL.W.exit ?_ | refine SL.W.condT ?_ | refine SL.W.condF ?_ | (refine SL.W.condP (fun h => ?_) (fun h => ?_) <;> (fail_if_success (have : h = trivial := rfl)) <;> (fail_if_success (have : h = not_false := rfl)) <;> first | contradiction | (exfalso; omega) | (exfalso; revert h; simp; done) | skip) | refine SL.W.condB (fun h => ?_) (fun h => ?_)) | (refine SL.TD.is ?_; first | (refine SL.W.dfin ?_; simp only [List.append_nil, List.cons_append, List.nil_append]) | refine SL.W.dpass ?_ | refine SL.W.dpure ?_ | refine SL.W.dload ?_ | refine SL.W.dloadA ?_ | refine SL.W.dfrz ?_ | (refine SL.W.dthaw ?_; simp only [List.append_nil, List.cons_append, List.nil_append]) | (refine SL.W.dguardP (fun h => ?_) (fun h => ?_) <;> (fail_if_success (have : h = trivial := rfl)) <;> (fail_if_success (have : h = not_false := rfl)) <;> first | contradiction | (exfalso; omega) | (exfalso; revert h; simp; done) | skip) | (refine SL.W.dguardB (fun h => ?_) (fun h => ?_) <;> (fail_if_success (have : h = (rfl : true = true) := rfl)) <;> (fail_if_success (have : h = (rfl : false = false) := rfl))) | refine SL.W.done ?_ | refine SL.W.dtwo ?_ ?_ | refine SL.W.dthree ?_ ?_ ?_))
    · have hall : ∀ p ∈ T, p.1 ∈ done := fun p hp => by
        have hm : p.1 ∈ (pv (goT us done T)).map (·.1) := by rw [pv_keys, goT_keys]; exact List.mem_map.2 ⟨_, hp, rfl⟩
        obtain ⟨x, hx, hx2⟩ := List.mem_map.1 hm
        rw [← hx2]; exact hend x hx
      refine SL.TK.retD Try.func16 (SL.Res.one rfl (by rfl)) ⟨rfl, rfl⟩ (EntD.trans mpI_done ?_)
      rw [goT_all hall]
      exact EntD.frm (by first | ((repeat (first | exact SL.Frm.nil | exact SL.Frm.refl | (apply SL.Frm.cons; repeat (first | exact SL.Pick.head | apply SL.Pick.tail)))); done) | fail) mk_shut (EntD.cons (by first | ((repeat (first | exact SL.Pick.head | apply SL.Pick.tail)); done) | fail) EntD.nil)
    · refine SL.TK.againD ih ⟨q :: done, rfl, rfl, rfl⟩ (by first | ((repeat (first | exact SL.Sub.nil | refine SL.Sub.cons (by rfl) (by first | rfl | exact SL.int_eq (by omega)) ?_)); done) | fail) ?_ ?_
      · rw [← iup_goT hHH.out.1 hp hqd, ← upd_pv]
        exact EntD.cons (by first | ((repeat (first | exact SL.Pick.head | apply SL.Pick.tail)); done) | fail) (EntD.cons (by first | ((repeat (first | exact SL.Pick.head | apply SL.Pick.tail)); done) | fail) (EntD.cons (by first | ((repeat (first | exact SL.Pick.head | apply SL.Pick.tail)); done) | fail) EntD.nil))
      · have e1 : (pv (goT us (q :: done) T)).countP (fun p => !(q :: done).contains p.1) = (pv (goT us done T)).countP (fun p => !(q :: done).contains p.1) := by
          rw [cnt_keys, cnt_keys, pv_keys, pv_keys, goT_keys, goT_keys]
        rw [e1]
        exact flt_lt hqv hqd
  · rw [if_neg he, if_neg he]
    repeat' (first | (refine SL.TO.is ?_; first | (refine SL.TO.door (o := ⟨_, .call ⟨.value (.func 42), _, _⟩, _, _, _, _⟩) ?_; first | (refine SL.W.call (mkNone_spec _ _ _) ?_; rintro _ _ ⟨rfl, rfl⟩; try simp only [List.cons_append, List.nil_append])) | (refine SL.TO.door (o := ⟨_, .call ⟨.value (.func 15), _, _⟩, _, _, _, _⟩) ?_; first | (refine SL.W.call (hlong) ?_; rintro _ _ ⟨rfl, rfl⟩; try simp only [List.cons_append, List.nil_append])) | refine SL.TO.nil ?_ | (refine SL.TO.nilD ?_; simp only [SL.setB]) | refine SL.W.pass ?_ | refine SL.W.pass0 ?_ | (refine SL.W.pure ?_; first | refine SL.W.pv ?_ | refine SL.W.pv0 ?_ | refine SL.W.lenMp ?_) | (refine SL.W.loud ?_; first | refine SL.W.load ?_ | refine SL.W.loadA ?_ | refine SL.W.store ?_ | refine SL.W.storeA ?_ | (refine SL.W.box ?_; intro b) | (refine SL.W.alloc ?_; intro b) | (refine SL.W.buildSlice ?_; intro b) | (refine SL.W.append ?_; intro a cap) | refine SL.W.bytesToStr ?_ | refine SL.W.pvn (SL.PV.toIntC (by rfl) (by first | exact SL.wrap_i64 (by omega) | exact SL.wrap_u8 (by omega) | exact SL.wrap_u32 (by omega) | exact SL.wrap_u64 (by omega) | rfl)) ?_ | (refine SL.W.makeSlice ?_; intro b) | refine SL.W.lookupOk ?_ | refine SL.W.lookup ?_ | (refine SL.W.makeMap ?_; intro b) | refine SL.W.mapUpdate ?_ | (refine SL.W.mapEntry ?_; intro stamp) | refine SL.W.entryStore ?_ | (refine SL.W.range ?_; intro it) | refine SL.W.delete ?_) | (refine SL.W.guardP (fun h => ?_) (fun h => ?_) <;> (fail_if_success (have : h = trivial := rfl)) <;> (fail_if_success (have : h = not_false := rfl)) <;> first | contradiction | (exfalso; omega) | (exfalso; revert h; simp; done) | skip) | (refine SL.W.guardB (fun h => ?_) (fun h => ?_) <;> (fail_if_success (have : h = (rfl : true = true) := rfl)) <;> (fail_if_success (have : h = (rfl : false = false) := rfl)))) | (refine SL.TK.is ?_; first | refine SL.TK.seq ?_ | refine SL.TK.region ?_ | refine SL.TK.regionD SL.mixed (by simp only [SL.falses] <;> rfl) ?_ | refine SL.TK.block ?_ | refine SL.TK.inBlock ?_ | refine SL.TK.skip ?_ | refine SL.TK.scope ?_ | refine SL.TK.inScope ?_ | refine SL.TK.label ?_ | refine SL.W.exit ?_ | refine SL.W.condT ?_ | refine SL.W.condF ?_ | (refine SL.W.condP (fun h => ?_) (fun h => ?_) <;> (fail_if_success (have : h = trivial := rfl)) <;> (fail_if_success (have : h = not_false := rfl)) <;> first | contradiction | (exfalso; omega) | (exfalso; revert h; simp; done) | skip) | refine SL.W.condB (fun h => ?_) (fun h => ?_)) | (refine SL.TD.is ?_; first | (refine SL.W.dfin ?_; simp only [List.append_nil, List.cons_append, List.nil_append]) | refine SL.W.dpass ?_ | refine SL.W.dpure ?_ | refine SL.W.dload ?_ | refine SL.W.dloadA ?_ | refine SL.W.dfrz ?_ | (refine SL.W.dthaw ?_; simp only [List.append_nil, List.cons_append, List.nil_append]) | (refine SL.W.dguardP (fun h => ?_) (fun h => ?_) <;> (fail_if_success (have : h = trivial := rfl)) <;> (fail_if_success (have : h = not_false := rfl)) <;> first | contradiction | (exfalso; omega) | (exfalso; revert h; simp; done) | skip) | (refine SL.W.dguardB (fun h => ?_) (fun h => ?_) <;> (fail_if_success (have : h = (rfl : true = true) := rfl)) <;> (fail_if_success (have : h = (rfl : false = false) := rfl))) | refine SL.W.done ?_ | refine SL.W.dtwo ?_ ?_ | refine SL.W.dthree ?_ ?_ ?_))
    exact SL.TK.retD Try.func16 (SL.Res.one rfl (by rfl)) ⟨rfl, rfl⟩ (EntD.frm (by first | ((repeat (first | exact SL.Frm.nil | exact SL.Frm.refl | (apply SL.Frm.cons; repeat (first | exact SL.Pick.head | apply SL.Pick.tail)))); done) | fail) mk_shut (EntD.cons (by first | ((repeat (first | exact SL.Pick.head | apply SL.Pick.tail)); done) | fail) EntD.nil))
end SL
