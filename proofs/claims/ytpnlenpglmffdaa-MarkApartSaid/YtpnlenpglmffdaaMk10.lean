/-
  Marks: Copy; what a call does; pointers held against each other.
-/
import Derived.Test.YtpnlenpglmffdaaMk8
import Derived.Test.YtpnlenpglmffdaaSo15
import Derived.Test.YtpnlenpglmffdaaSl16
import Derived.LaidEql
set_option linter.unusedVariables false
set_option linter.unusedSimpArgs false
set_option maxRecDepth 10000
namespace SL
open Go Go.Proofs Go.RowKit

theorem sortN255 : SortN 255 := fun a cap xs hx => sort255 a cap xs hx
/-! rows of pairs -/
theorem mp_mem {q v : Int} {T : As2} {p : Int × Int} (h : p ∈ iup q v T) : p = (q, v) ∨ p ∈ T := by
  induction T with
  | nil => simp [iup] at h; exact .inl h
  | cons x T ih =>
    simp only [iup] at h
    split at h
    · rcases List.mem_cons.1 h with h | h
      · exact .inl h
      · exact .inr (List.mem_cons_of_mem _ h)
    · rcases List.mem_cons.1 h with h | h
      · exact .inr (by rw [h]; exact List.mem_cons_self ..)
      · rcases ih h with h | h
        · exact .inl h
        · exact .inr (List.mem_cons_of_mem _ h)
theorem mp_len (q v : Int) (T : As2) : (iup q v T).length ≤ T.length + 1 := by
  induction T with
  | nil => simp [iup]
  | cons p T ih => simp only [iup]; split <;> simp <;> omega
theorem mp_nodup {q v : Int} {T : As2} (h : (T.map (·.1)).Nodup) : ((iup q v T).map (·.1)).Nodup := by
  induction T with
  | nil => simp [iup]
  | cons p T ih =>
    simp only [iup]
    split
    · rename_i e; simpa [e] using h
    · rename_i e
      simp only [List.map_cons, List.nodup_cons] at h ⊢
      refine ⟨fun c => ?_, ih h.2⟩
      obtain ⟨x, hx, hx2⟩ := List.mem_map.1 c
      rcases mp_mem hx with rfl | hx
      · exact e hx2.symm
      · exact h.1 (hx2 ▸ List.mem_map.2 ⟨x, hx, rfl⟩)
theorem idl_sub (q : Int) (T : As2) : (idl q T).Sublist T := by
  induction T with
  | nil => exact .slnil
  | cons p T ih =>
    simp only [idl]
    split
    · exact List.sublist_cons_self _ _
    · exact ih.cons_cons _
theorem idl_off {q : Int} {T : As2} (h : (lkp q T).isSome = false) : idl q T = T := by
  induction T with
  | nil => rfl
  | cons p T ih =>
    simp only [lkp] at h
    split at h
    · cases h
    · rename_i e; simp only [idl, if_neg e, ih h]
theorem drop_same {q : Int} {T : As2} : (if (lkp q T).isSome then idl q T else T) = idl q T := by
  split
  · rfl
  · rename_i h; exact (idl_off (by simpa using h)).symm
theorem lkp_in {q v : Int} {T : As2} (h : lkp q T = some v) : (q, v) ∈ T := by
  induction T with
  | nil => simp [lkp] at h
  | cons p T ih =>
    simp only [lkp] at h
    split at h
    · rename_i e
      cases h
      subst e
      exact List.mem_cons_self ..
    · exact List.mem_cons_of_mem _ (ih h)
/-- marks as they must be -/
structure MkOk (b : Int) (k : Nat) (long : Int) (T : As2) : Prop where
  lo : 0 ≤ long
  hi : long ≤ b
  nd : (T.map (·.1)).Nodup
  at_ : ∀ p ∈ T, 0 ≤ p.2 ∧ p.2 ≤ long
  len : T.length ≤ k
/-- what a call does -/
def doM (what cl pos : Int) (us : List Un) (long : Int) (T : As2) : Int × Int × As2 :=
  if what = 1 then (if (lkp cl T).isSome then 0 else 6, long, idl cl T)
  else if what = 2 then ((longR us long).2, if (longR us long).2 = 0 then (longR us long).1 else long, if (longR us long).2 = 0 then goA us T else T)
  else (if 0 ≤ pos ∧ pos ≤ long then 0 else 30, long, if 0 ≤ pos ∧ pos ≤ long then iup cl pos T else T)
theorem long_ok {us : List Un} {n : Int} (h : (longR us n).2 = 0) : 0 ≤ n ∧ longU us n = some (longR us n).1 := by
  unfold longR at h ⊢
  split at h
  · cases h
  · rename_i hn
    rw [if_neg hn]
    split at h
    · rename_i m hm; rw [hm]; exact ⟨by omega, rfl⟩
    · cases h
theorem MkOk.go {b : Int} {k : Nat} {long : Int} {T : As2} (h : MkOk b k long T) {us : List Un} (hr : (longR us long).2 = 0) (hu : us.length ≤ 20) : MkOk (b + 20) (k + 1) (longR us long).1 (goA us T) := by
  obtain ⟨_, hl⟩ := long_ok hr
  have hb := longU_bound us _ _ hl h.lo
  refine ⟨hb.1, by have := h.hi; omega, by rw [goA_keys]; exact h.nd, fun p hp => ?_, by unfold goA; rw [List.length_map]; have := h.len; omega⟩
  obtain ⟨x, hx, rfl⟩ := List.mem_map.1 hp
  exact placeU_within hl (h.at_ x hx)
theorem MkOk.wide {b b' : Int} {k k' : Nat} {long : Int} {T : As2} (h : MkOk b k long T) (hb : b ≤ b') (hk : k ≤ k') : MkOk b' k' long T := ⟨h.lo, Int.le_trans h.hi hb, h.nd, h.at_, Nat.le_trans h.len hk⟩
theorem MkOk.set {b : Int} {k : Nat} {long : Int} {T : As2} (h : MkOk b k long T) {q p : Int} (hp : 0 ≤ p ∧ p ≤ long) : MkOk b (k + 1) long (iup q p T) :=
  ⟨h.lo, h.hi, mp_nodup h.nd, fun x hx => by
    rcases mp_mem hx with rfl | hx
    · exact hp
    · exact h.at_ x hx, by have := mp_len q p T; have := h.len; omega⟩
theorem MkOk.do_ {b : Int} {k : Nat} {long : Int} {T : As2} (h : MkOk b k long T) (what cl pos : Int) {us : List Un} (hu : us.length ≤ 20) : MkOk (b + 20) (k + 1) (doM what cl pos us long T).2.1 (doM what cl pos us long T).2.2 := by
  unfold doM
  split
  · exact ⟨h.lo, by have := h.hi; show long ≤ b + 20; omega, h.nd.sublist ((idl_sub cl T).map _), fun p hp => h.at_ p ((idl_sub cl T).mem hp), Nat.le_trans (idl_sub cl T).length_le (by have := h.len; omega)⟩
  · split
    · dsimp only
      by_cases hr : (longR us long).2 = 0
      · rw [if_pos hr, if_pos hr]; exact h.go hr hu
      · rw [if_neg hr, if_neg hr]; exact h.wide (by omega) (by omega)
    · dsimp only
      by_cases hp : 0 ≤ pos ∧ pos ≤ long
      · rw [if_pos hp]; exact (h.set hp).wide (by omega) (by omega)
      · rw [if_neg hp]; exact h.wide (by omega) (by omega)
def JmOk (S : Int × As2) : Prop := (0 ≤ S.1 ∧ S.1 ≤ 1000000) ∧ ∀ p ∈ S.2, 0 ≤ p.2 ∧ p.2 ≤ 1000000
def JunkMk (y : Nat) : HProp := SL.ex fun S : { S : Int × As2 // JmOk S } => seps [MarksAt y S.1.1 S.1.2]
theorem jm_in {y : Nat} {long : Int} {T : As2} (h : JmOk (long, T)) : ∀ x, seps [MarksAt y long T] x → JunkMk y x := fun x a => ⟨⟨(long, T), h⟩, a⟩
theorem MkOk.jm {b : Int} {k : Nat} {long : Int} {T : As2} (h : MkOk b k long T) (hb : b ≤ 1000000) : JmOk (long, T) := ⟨⟨h.lo, Int.le_trans h.hi hb⟩, fun p hp => by have := h.at_ p hp; have := h.hi; omega⟩
theorem jm_open {y : Nat} {B : HProp} : ∀ h, seps [JunkMk y, B] h → ∃ S : { S : Int × As2 // JmOk S }, seps [MarksAt y S.1.1 S.1.2, B] h := by
  rintro h ⟨h1, h2, d, rfl, ⟨x, hx⟩, h3⟩
  exact ⟨x, h1, h2, d, rfl, sep_emp.1 (sep_comm hx), h3⟩
def uIns : Un := ⟨1, 0, 120, 0, 0⟩

section
variable {P : Program} {fid : Fm} {n : Nat} {post : Post} {k : List Item} {ρ : Env} {L r r' : List HProp} {ops rest : List Oper} {ty : TypeId} {pos : String} {af : Array Edge} {g : Option (Nat × Bool)} {sf : Option (List Bool × List HProp)}
/-- two marks that live apart: their pointers differ -/
theorem TO.neMk {d : Nat} {x y : Operand} {t u e sz b b' : Nat} {l l' : Int} {T T' : As2} (hu : P.underlying t = some (.pointer e)) [hg : TAg P e sz] (hsz : sz ≠ 0) (hw : wants ops ρ g = some true) (hd : Nat.blt d n = true)
    (hx : ev ρ x = some (.pointer (some ⟨b, 0, none⟩))) (hy : ev ρ y = some (.pointer (some ⟨b', 0, none⟩))) (k1 : Pick L (MarksAt b l T) r) (k2 : Pick r (MarksAt b' l' T') r')
    (h : TO P fid n post ops rest sf k ((d, .bool true) :: ρ) L) : TO P fid n post ops (⟨some d, .binOp .neq t x y u, ty, pos, af, g⟩ :: rest) sf k ρ L :=
  TO.val hw hd fun w0 F a w gr st => by
    obtain ⟨mb, s1⟩ := st.exC k1
    have s2 := s1.sepsC Pick.head
    obtain ⟨mb', s3⟩ := s2.exC (Pick.tail (Pick.tail k2))
    have s4 := s3.sepsC Pick.head
    have h1 := s4.read (Pick.tail (Pick.tail Pick.head))
    have h2 := s4.read Pick.head
    have hne := s4.apart Pick.head (Pick.tail Pick.head)
    have hna : (⟨b, 0, none⟩ : Addr) ≠ ⟨b', 0, none⟩ := fun c => hne (congrArg Addr.block c).symm
    have hsame : (sameAddr (⟨b, 0, none⟩ : Addr) ⟨b', 0, none⟩).run P w = .ok false w := run_sameAddr_other w hna h1 h2
    have heq : (Op.equal t (.pointer (some ⟨b, 0, none⟩)) (.pointer (some ⟨b', 0, none⟩))).run P w = .ok false w := by
      show (Op.equalIn (9999 + 1) t _ _).run P w = _
      generalize 9999 = m
      simp [Op.equalIn, run_und hu, (hg.run w).2, hsz, hsame]
    exact ⟨.bool true, L, w, by simp [execOp, eqGuard, binOp, gr.eval hx, gr.eval hy, heq], st, h⟩
theorem PV.neSame {dst : Option Nat} {x y : Operand} {t u e sz : Nat} {q : Addr} (hu : P.underlying t = some (.pointer e)) [hg : TAg P e sz] (hsz : sz ≠ 0) (hx : ev ρ x = some (.pointer (some q))) (hy : ev ρ y = some (.pointer (some q))) :
    PV P n ρ ⟨dst, .binOp .neq t x y u, ty, pos, af, g⟩ (.bool false) := fun a w gr => by
  have heq : (Op.equal t (.pointer (some q)) (.pointer (some q))).run P w = .ok true w := by
    show (Op.equalIn (9999 + 1) t _ _).run P w = _
    generalize 9999 = m
    simp [Op.equalIn, run_und hu, (hg.run w).2, hsz, run_sameAddr_same]
  simp [execOp, eqGuard, binOp, gr.eval hx, gr.eval hy, heq]
end
theorem undMk : Try.prog.underlying 25 = some (.pointer 65) := by kernel_rfl
attribute [local irreducible] SL.TK SL.TO SL.TD SL.PV SL.Pick SL.Frm SL.Ent SL.Sub SL.EvAll SL.seps SL.sep SL.Cut SL.PutAt SL.blk SL.EvP SL.Fill SL.Src SL.EntD SL.own SL.ex SL.fact SL.orig

theorem mapsClone_ext (mb : Nat) (T : As2) : Ext Try.prog 63 [.iface 63 (.map (some mb))] [mp (Value.int .u32) mb (pv T)] (fun r L => ∃ b, r = .iface 63 (.map (some b)) ∧ L = [mp (Value.int .u32) b (pv T), mp (Value.int .u32) mb (pv T)]) :=
  Ext.clone Try.func63 (by kernel_rfl) (by kernel_rfl) (by kernel_rfl) (by kernel_rfl)
theorem clone_spec (mb : Nat) (T : As2) : Spec Try.prog 50 [.map (some mb)] [mp (Value.int .u32) mb (pv T)] (fun r L => ∃ b, r = .map (some b) ∧ L = [mp (Value.int .u32) b (pv T), mp (Value.int .u32) mb (pv T)]) := by
  have hE := Lib.hid (mapsClone_ext mb T)
  refine SL.Spec.of_TK Go.Proofs.Try.func50 rfl rfl SL.call50 rfl ?_
  repeat' (first | (refine SL.TO.is ?_; first | (refine SL.TO.door (o := ⟨_, .makeInterface _ _, _, _, _, _⟩) ?_; refine SL.W.pvn (PV.ifaceM (by rfl)) ?_) | (refine SL.TO.door (o := ⟨_, .typeAssert _ _ _ _, _, _, _, _⟩) ?_; refine SL.W.pvn (PV.assertM (by rfl)) ?_) | (refine SL.TO.door (o := ⟨_, .call ⟨.value (.func 63), _, _⟩, _, _, _, _⟩) ?_; first | (refine SL.W.callExt hE.out ?_; rintro _ _ ⟨b7, rfl, rfl⟩; try simp only [List.cons_append, List.nil_append])) | refine SL.TO.nil ?_ | (refine SL.TO.nilD ?_; simp only [SL.setB]) | refine SL.W.pass ?_ | refine SL.W.pass0 ?_ | (refine SL.W.pure ?_; first | refine SL.W.pv ?_ | refine SL.W.pv0 ?_ | refine SL.W.lenMp ?_ | (refine SL.W.guardP (fun h => ?_) (fun h => ?_) <;> (fail_if_success (have : h = trivial := rfl)) <;> (fail_if_success (have : h = not_false := rfl)) <;> first | contradiction | (exfalso; omega) | (exfalso; revert h; simp; done) | skip) | (refine SL.W.guardB (fun h => ?_) (fun h => ?_) <;> (fail_if_success (have : h = (rfl : true = true) := rfl)) <;> (fail_if_success (have : h = (rfl : false = false) := rfl)))) | (refine SL.W.loud ?_; first | refine SL.W.load ?_ | refine SL.W.loadA ?_ | refine SL.W.store ?_ | refine SL.W.storeA ?_ | (refine SL.W.box ?_; intro b) | (refine SL.W.alloc ?_; intro b) | (refine SL.W.buildSlice ?_; intro b) | (refine SL.W.append ?_; intro a cap) | refine SL.W.bytesToStr ?_ | refine SL.W.pvn (SL.PV.toIntC (by rfl) (by first | exact SL.wrap_i64 (by omega) | exact SL.wrap_u8 (by omega) | exact SL.wrap_u32 (by omega) | exact SL.wrap_u64 (by omega) | rfl)) ?_ | (refine SL.W.makeSlice ?_; intro b) | refine SL.W.lookupOk ?_ | refine SL.W.lookup ?_ | (refine SL.W.makeMap ?_; intro b) | refine SL.W.mapUpdate ?_ | (refine SL.W.mapEntry ?_; intro stamp) | refine SL.W.entryStore ?_ | (refine SL.W.range ?_; intro it) | refine SL.W.delete ?_ | (refine SL.W.guardP (fun h => ?_) (fun h => ?_) <;> (fail_if_success (have : h = trivial := rfl)) <;> (fail_if_success (have : h = not_false := rfl)) <;> first | contradiction | (exfalso; omega) | (exfalso; revert h; simp; done) | skip) | (refine SL.W.guardB (fun h => ?_) (fun h => ?_) <;> (fail_if_success (have : h = (rfl : true = true) := rfl)) <;> (fail_if_success (have : h = (rfl : false = false) := rfl))))) | (refine SL.TK.is ?_; first | refine SL.TK.seq ?_ | refine SL.TK.region ?_ | refine SL.TK.regionD SL.mixed (by simp only [SL.falses] <;> rfl) ?_ | refine SL.TK.block ?_ | refine SL.TK.inBlock ?_ | refine SL.TK.skip ?_ | refine SL.TK.scope ?_ | refine SL.TK.inScope ?_ | refine SL.TK.label ?_ | refine SL.W.exit ?_ | refine SL.W.condT ?_ | refine SL.W.condF ?_ | (refine SL.W.condP (fun h => ?_) (fun h => ?_) <;> (fail_if_success (have : h = trivial := rfl)) <;> (fail_if_success (have : h = not_false := rfl)) <;> first | contradiction | (exfalso; omega) | (exfalso; revert h; simp; done) | skip) | refine SL.W.condB (fun h => ?_) (fun h => ?_)) | (refine SL.TD.is ?_; first | (refine SL.W.dfin ?_; simp only [List.append_nil, List.cons_append, List.nil_append]) | refine SL.W.dpass ?_ | refine SL.W.dpure ?_ | refine SL.W.dload ?_ | refine SL.W.dloadA ?_ | refine SL.W.dfrz ?_ | (refine SL.W.dthaw ?_; simp only [List.append_nil, List.cons_append, List.nil_append]) | (refine SL.W.dguardP (fun h => ?_) (fun h => ?_) <;> (fail_if_success (have : h = trivial := rfl)) <;> (fail_if_success (have : h = not_false := rfl)) <;> first | contradiction | (exfalso; omega) | (exfalso; revert h; simp; done) | skip) | (refine SL.W.dguardB (fun h => ?_) (fun h => ?_) <;> (fail_if_success (have : h = (rfl : true = true) := rfl)) <;> (fail_if_success (have : h = (rfl : false = false) := rfl))) | refine SL.W.done ?_ | refine SL.W.dtwo ?_ ?_ | refine SL.W.dthree ?_ ?_ ?_))
  all_goals exact SL.TK.retD Try.func50 (SL.Res.one rfl (by rfl)) ⟨_, rfl, rfl⟩ (EntD.cons (by first | ((repeat (first | exact SL.Pick.head | apply SL.Pick.tail)); done) | fail) (EntD.cons (by first | ((repeat (first | exact SL.Pick.head | apply SL.Pick.tail)); done) | fail) EntD.nil))
theorem mkCopy_spec (nb : Nat) (long : Int) (T : As2) : Spec Try.prog 21 [.pointer (some ⟨nb, 0, none⟩)] [MarksAt nb long T] (fun r L => ∃ cb, r = .pointer (some ⟨cb, 0, none⟩) ∧ L = [MarksAt cb long T, MarksAt nb long T]) := by
  refine SL.Spec.of_TK Go.Proofs.Try.func21 rfl rfl SL.call21 rfl ?_
  refine SL.TK.openMk (by first | ((repeat (first | exact SL.Pick.head | apply SL.Pick.tail)); done) | fail) (fun mb => ?_)
  repeat' (first | (refine SL.TO.is ?_; first | (refine SL.TO.door (o := ⟨_, .call ⟨.value (.func 42), _, _⟩, _, _, _, _⟩) ?_; first | (refine SL.W.call (mkNone_spec _ _ _) ?_; rintro _ _ ⟨rfl, rfl⟩; try simp only [List.cons_append, List.nil_append])) | (refine SL.TO.door (o := ⟨_, .call ⟨.value (.func 50), _, _⟩, _, _, _, _⟩) ?_; first | (refine SL.W.call (clone_spec _ _) ?_; rintro _ _ ⟨b8, rfl, rfl⟩; try simp only [List.cons_append, List.nil_append])) | refine SL.TO.nil ?_ | (refine SL.TO.nilD ?_; simp only [SL.setB]) | refine SL.W.pass ?_ | refine SL.W.pass0 ?_ | (refine SL.W.pure ?_; first | refine SL.W.pv ?_ | refine SL.W.pv0 ?_ | refine SL.W.lenMp ?_ | (refine SL.W.guardP (fun h => ?_) (fun h => ?_) <;> (fail_if_success (have : h = trivial := rfl)) <;> (fail_if_success (have : h = not_false := rfl)) <;> first | contradiction | (exfalso; omega) | (exfalso; revert h; simp; done) | skip) | (refine SL.W.guardB (fun h => ?_) (fun h => ?_) <;> (fail_if_success (have : h = (rfl : true = true) := rfl)) <;> (fail_if_success (have : h = (rfl : false = false) := rfl)))) | (refine SL.W.loud ?_; first | refine SL.W.load ?_ | refine SL.W.loadA ?_ | refine SL.W.store ?_ | refine SL.W.storeA ?_ | (refine SL.W.box ?_; intro b) | (refine SL.W.alloc ?_; intro b) | (refine SL.W.buildSlice ?_; intro b) | (refine SL.W.append ?_; intro a cap) | refine SL.W.bytesToStr ?_ | refine SL.W.pvn (SL.PV.toIntC (by rfl) (by first | exact SL.wrap_i64 (by omega) | exact SL.wrap_u8 (by omega) | exact SL.wrap_u32 (by omega) | exact SL.wrap_u64 (by omega) | rfl)) ?_ | (refine SL.W.makeSlice ?_; intro b) | refine SL.W.lookupOk ?_ | refine SL.W.lookup ?_ | (refine SL.W.makeMap ?_; intro b) | refine SL.W.mapUpdate ?_ | (refine SL.W.mapEntry ?_; intro stamp) | refine SL.W.entryStore ?_ | (refine SL.W.range ?_; intro it) | refine SL.W.delete ?_ | (refine SL.W.guardP (fun h => ?_) (fun h => ?_) <;> (fail_if_success (have : h = trivial := rfl)) <;> (fail_if_success (have : h = not_false := rfl)) <;> first | contradiction | (exfalso; omega) | (exfalso; revert h; simp; done) | skip) | (refine SL.W.guardB (fun h => ?_) (fun h => ?_) <;> (fail_if_success (have : h = (rfl : true = true) := rfl)) <;> (fail_if_success (have : h = (rfl : false = false) := rfl))))) | (refine SL.TK.is ?_; first | refine SL.TK.seq ?_ | refine SL.TK.region ?_ | refine SL.TK.regionD SL.mixed (by simp only [SL.falses] <;> rfl) ?_ | refine SL.TK.block ?_ | refine SL.TK.inBlock ?_ | refine SL.TK.skip ?_ | refine SL.TK.scope ?_ | refine SL.TK.inScope ?_ | refine SL.TK.label ?_ | refine SL.W.exit ?_ | refine SL.W.condT ?_ | refine SL.W.condF ?_ | (refine SL.W.condP (fun h => ?_) (fun h => ?_) <;> (fail_if_success (have : h = trivial := rfl)) <;> (fail_if_success (have : h = not_false := rfl)) <;> first | contradiction | (exfalso; omega) | (exfalso; revert h; simp; done) | skip) | refine SL.W.condB (fun h => ?_) (fun h => ?_)) | (refine SL.TD.is ?_; first | (refine SL.W.dfin ?_; simp only [List.append_nil, List.cons_append, List.nil_append]) | refine SL.W.dpass ?_ | refine SL.W.dpure ?_ | refine SL.W.dload ?_ | refine SL.W.dloadA ?_ | refine SL.W.dfrz ?_ | (refine SL.W.dthaw ?_; simp only [List.append_nil, List.cons_append, List.nil_append]) | (refine SL.W.dguardP (fun h => ?_) (fun h => ?_) <;> (fail_if_success (have : h = trivial := rfl)) <;> (fail_if_success (have : h = not_false := rfl)) <;> first | contradiction | (exfalso; omega) | (exfalso; revert h; simp; done) | skip) | (refine SL.W.dguardB (fun h => ?_) (fun h => ?_) <;> (fail_if_success (have : h = (rfl : true = true) := rfl)) <;> (fail_if_success (have : h = (rfl : false = false) := rfl))) | refine SL.W.done ?_ | refine SL.W.dtwo ?_ ?_ | refine SL.W.dthree ?_ ?_ ?_))
  all_goals exact SL.TK.retD Try.func21 (SL.Res.one rfl (by rfl)) ⟨_, rfl, rfl⟩ (EntD.frm (by first | ((repeat (first | exact SL.Frm.nil | exact SL.Frm.refl | (apply SL.Frm.cons; repeat (first | exact SL.Pick.head | apply SL.Pick.tail)))); done) | fail) mk_shut (EntD.frm (by first | ((repeat (first | exact SL.Frm.nil | exact SL.Frm.refl | (apply SL.Frm.cons; repeat (first | exact SL.Pick.head | apply SL.Pick.tail)))); done) | fail) mk_shut EntD.nil))

theorem does_spec (W : World) (x ob cap : Nat) (a : Option Addr) (what cl pos : Int) (us : List Un) (long : Int) (T : As2) (b : Int) (k : Nat) (h : MkOk b k long T) (hb : b ≤ 1000000) (hX : RowX (SL.orig W) a us) (hcap : us.length ≤ cap) (hm : cap ≤ 9223372036854775807) :
    Spec Try.prog 22 [.pointer (some ⟨x, 0, none⟩), .pointer (some ⟨ob, 0, none⟩)] [MarksAt x long T, SL.blk ob 49 [.int .i64 what, .int .u32 cl, .int .i64 pos, .slice a us.length cap], SL.orig W]
      (fun r L => r = .int .i64 (doM what cl pos (us.take 20) long T).1 ∧ L = [MarksAt x (doM what cl pos (us.take 20) long T).2.1 (doM what cl pos (us.take 20) long T).2.2, SL.blk ob 49 [.int .i64 what, .int .u32 cl, .int .i64 pos, .slice a us.length cap], SL.orig W]) := by
  obtain ⟨N, hN⟩ : ∃ N, N = us.length := ⟨_, rfl⟩
  rw [← hN] at hcap ⊢
  obtain ⟨m, hmn⟩ : ∃ m : Nat, min (N : Int) 20 = (m : Int) := ⟨min N 20, by omega⟩
  have hml : m ≤ cap := by omega
  have htk : us.take 20 = us.take m := by
    rcases Nat.le_total N 20 with h1 | h1
    · rw [List.take_of_length_le (by omega), List.take_of_length_le (by omega)]
    · rw [show m = 20 from by omega]
  have hlm : (us.take m).length = m := by rw [List.length_take]; omega
  have hTb : ∀ p ∈ T, -1000000000000 ≤ p.2 ∧ p.2 ≤ 1099511627776 := fun p hp => by have := h.at_ p hp; have := h.hi; omega
  by_cases h1 : what = 1
  · have hd := mkDrop_spec x long cl T
    rw [drop_same] at hd
    have hD : doM what cl pos (us.take 20) long T = (if (lkp cl T).isSome then 0 else 6, long, idl cl T) := if_pos h1
    rw [hD]
    obtain ⟨E, hE⟩ : ∃ E : Int, E = if (lkp cl T).isSome then 0 else 6 := ⟨_, rfl⟩
    rw [← hE] at hd ⊢
    have hdH := Lib.hid hd
    clear hd hD hE hTb htk hlm hX h hN
    refine SL.Spec.of_TK Go.Proofs.Try.func22 rfl rfl SL.call22 rfl ?_
    repeat' (first | (refine SL.TO.is ?_; first | (refine SL.TO.door (o := ⟨_, .call ⟨.value (.func 23), _, _⟩, _, _, _, _⟩) ?_; first | (refine SL.W.call (hdH.out) ?_; rintro _ _ ⟨rfl, rfl⟩; try simp only [List.cons_append, List.nil_append])) | refine SL.TO.nil ?_ | (refine SL.TO.nilD ?_; simp only [SL.setB]) | refine SL.W.pass ?_ | refine SL.W.pass0 ?_ | (refine SL.W.pure ?_; first | refine SL.W.pv ?_ | refine SL.W.pv0 ?_ | refine SL.W.lenMp ?_ | (refine SL.W.guardP (fun h => ?_) (fun h => ?_) <;> (fail_if_success (have : h = trivial := rfl)) <;> (fail_if_success (have : h = not_false := rfl)) <;> first | contradiction | (exfalso; omega) | (exfalso; revert h; simp; done) | skip) | (refine SL.W.guardB (fun h => ?_) (fun h => ?_) <;> (fail_if_success (have : h = (rfl : true = true) := rfl)) <;> (fail_if_success (have : h = (rfl : false = false) := rfl)))) | (refine SL.W.loud ?_; first | refine SL.W.load ?_ | refine SL.W.loadA ?_ | refine SL.W.store ?_ | refine SL.W.storeA ?_ | (refine SL.W.box ?_; intro b) | (refine SL.W.alloc ?_; intro b) | (refine SL.W.buildSlice ?_; intro b) | (refine SL.W.append ?_; intro a cap) | refine SL.W.bytesToStr ?_ | refine SL.W.pvn (SL.PV.toIntC (by rfl) (by first | exact SL.wrap_i64 (by omega) | exact SL.wrap_u8 (by omega) | exact SL.wrap_u32 (by omega) | exact SL.wrap_u64 (by omega) | rfl)) ?_ | (refine SL.W.makeSlice ?_; intro b) | refine SL.W.lookupOk ?_ | refine SL.W.lookup ?_ | (refine SL.W.makeMap ?_; intro b) | refine SL.W.mapUpdate ?_ | (refine SL.W.mapEntry ?_; intro stamp) | refine SL.W.entryStore ?_ | (refine SL.W.range ?_; intro it) | refine SL.W.delete ?_ | (refine SL.W.guardP (fun h => ?_) (fun h => ?_) <;> (fail_if_success (have : h = trivial := rfl)) <;> (fail_if_success (have : h = not_false := rfl)) <;> first | contradiction | (exfalso; omega) | (exfalso; revert h; simp; done) | skip) | (refine SL.W.guardB (fun h => ?_) (fun h => ?_) <;> (fail_if_success (have : h = (rfl : true = true) := rfl)) <;> (fail_if_success (have : h = (rfl : false = false) := rfl))))) | (refine SL.TK.is ?_; first | refine SL.TK.seq ?_ | refine SL.TK.region ?_ | refine SL.TK.regionD SL.mixed (by simp only [SL.falses] <;> rfl) ?_ | refine SL.TK.block ?_ | refine SL.TK.inBlock ?_ | refine SL.TK.skip ?_ | refine SL.TK.scope ?_ | refine SL.TK.inScope ?_ | refine SL.TK.label ?_ | refine SL.W.exit ?_ | refine SL.W.condT ?_ | refine SL.W.condF ?_ | (refine SL.W.condP (fun h => ?_) (fun h => ?_) <;> (fail_if_success (have : h = trivial := rfl)) <;> (fail_if_success (have : h = not_false := rfl)) <;> first | contradiction | (exfalso; omega) | (exfalso; revert h; simp; done) | skip) | refine SL.W.condB (fun h => ?_) (fun h => ?_)) | (refine SL.TD.is ?_; first | (refine SL.W.dfin ?_; simp only [List.append_nil, List.cons_append, List.nil_append]) | refine SL.W.dpass ?_ | refine SL.W.dpure ?_ | refine SL.W.dload ?_ | refine SL.W.dloadA ?_ | refine SL.W.dfrz ?_ | (refine SL.W.dthaw ?_; simp only [List.append_nil, List.cons_append, List.nil_append]) | (refine SL.W.dguardP (fun h => ?_) (fun h => ?_) <;> (fail_if_success (have : h = trivial := rfl)) <;> (fail_if_success (have : h = not_false := rfl)) <;> first | contradiction | (exfalso; omega) | (exfalso; revert h; simp; done) | skip) | (refine SL.W.dguardB (fun h => ?_) (fun h => ?_) <;> (fail_if_success (have : h = (rfl : true = true) := rfl)) <;> (fail_if_success (have : h = (rfl : false = false) := rfl))) | refine SL.W.done ?_ | refine SL.W.dtwo ?_ ?_ | refine SL.W.dthree ?_ ?_ ?_))
    all_goals exact SL.TK.retD Try.func22 (SL.Res.one rfl (by rfl)) ⟨rfl, rfl⟩ (EntD.cons (by first | ((repeat (first | exact SL.Pick.head | apply SL.Pick.tail)); done) | fail) (EntD.cons (by first | ((repeat (first | exact SL.Pick.head | apply SL.Pick.tail)); done) | fail) (EntD.cons (by first | ((repeat (first | exact SL.Pick.head | apply SL.Pick.tail)); done) | fail) EntD.nil)))
  · by_cases h2 : what = 2
    · have hg := mkGo_spec (X := SL.orig W) a cap x long (us.take m) T (hX.take m) (by omega) (by have := h.lo; have := h.hi; omega) hTb
      rw [hlm] at hg
      have hD : doM what cl pos (us.take 20) long T = ((longR (us.take m) long).2, if (longR (us.take m) long).2 = 0 then (longR (us.take m) long).1 else long, if (longR (us.take m) long).2 = 0 then goA (us.take m) T else T) := by unfold doM; rw [if_neg h1, if_pos h2, htk]
      rw [hD]
      dsimp only
      obtain ⟨E, hE⟩ : ∃ E, E = (longR (us.take m) long).2 := ⟨_, rfl⟩
      obtain ⟨l2, hl2⟩ : ∃ l2, l2 = if (longR (us.take m) long).2 = 0 then (longR (us.take m) long).1 else long := ⟨_, rfl⟩
      obtain ⟨T2, hT2⟩ : ∃ T2, T2 = if (longR (us.take m) long).2 = 0 then goA (us.take m) T else T := ⟨_, rfl⟩
      rw [← hT2, ← hl2, ← hE] at hg ⊢
      have hgH := Lib.hid hg
      clear hg hD hE hl2 hT2 hTb htk hlm hX h hN
      refine SL.Spec.of_TK Go.Proofs.Try.func22 rfl rfl SL.call22 rfl ?_
      repeat' (first | refine SL.W.pvn (PV.minI (by rfl) (by rfl) hmn) ?_ | (refine SL.TO.is ?_; first | (refine SL.TO.door (o := ⟨_, .call ⟨.value (.func 16), _, _⟩, _, _, _, _⟩) ?_; first | (refine SL.W.call (hgH.out) ?_; rintro _ _ ⟨rfl, rfl⟩; try simp only [List.cons_append, List.nil_append])) | refine SL.TO.nil ?_ | (refine SL.TO.nilD ?_; simp only [SL.setB]) | refine SL.W.pass ?_ | refine SL.W.pass0 ?_ | (refine SL.W.pure ?_; first | refine SL.W.pv ?_ | refine SL.W.pv0 ?_ | refine SL.W.lenMp ?_ | (refine SL.W.guardP (fun h => ?_) (fun h => ?_) <;> (fail_if_success (have : h = trivial := rfl)) <;> (fail_if_success (have : h = not_false := rfl)) <;> first | contradiction | (exfalso; omega) | (exfalso; revert h; simp; done) | skip) | (refine SL.W.guardB (fun h => ?_) (fun h => ?_) <;> (fail_if_success (have : h = (rfl : true = true) := rfl)) <;> (fail_if_success (have : h = (rfl : false = false) := rfl)))) | (refine SL.W.loud ?_; first | refine SL.W.load ?_ | refine SL.W.loadA ?_ | refine SL.W.store ?_ | refine SL.W.storeA ?_ | (refine SL.W.box ?_; intro b) | (refine SL.W.alloc ?_; intro b) | (refine SL.W.buildSlice ?_; intro b) | (refine SL.W.append ?_; intro a cap) | refine SL.W.bytesToStr ?_ | refine SL.W.pvn (SL.PV.toIntC (by rfl) (by first | exact SL.wrap_i64 (by omega) | exact SL.wrap_u8 (by omega) | exact SL.wrap_u32 (by omega) | exact SL.wrap_u64 (by omega) | rfl)) ?_ | (refine SL.W.makeSlice ?_; intro b) | refine SL.W.lookupOk ?_ | refine SL.W.lookup ?_ | (refine SL.W.makeMap ?_; intro b) | refine SL.W.mapUpdate ?_ | (refine SL.W.mapEntry ?_; intro stamp) | refine SL.W.entryStore ?_ | (refine SL.W.range ?_; intro it) | refine SL.W.delete ?_ | (refine SL.W.guardP (fun h => ?_) (fun h => ?_) <;> (fail_if_success (have : h = trivial := rfl)) <;> (fail_if_success (have : h = not_false := rfl)) <;> first | contradiction | (exfalso; omega) | (exfalso; revert h; simp; done) | skip) | (refine SL.W.guardB (fun h => ?_) (fun h => ?_) <;> (fail_if_success (have : h = (rfl : true = true) := rfl)) <;> (fail_if_success (have : h = (rfl : false = false) := rfl))))) | (refine SL.TK.is ?_; first | refine SL.TK.seq ?_ | refine SL.TK.region ?_ | refine SL.TK.regionD SL.mixed (by simp only [SL.falses] <;> rfl) ?_ | refine SL.TK.block ?_ | refine SL.TK.inBlock ?_ | refine SL.TK.skip ?_ | refine SL.TK.scope ?_ | refine SL.TK.inScope ?_ | refine SL.TK.label ?_ | refine SL.W.exit ?_ | refine SL.W.condT ?_ | refine SL.W.condF ?_ | (refine SL.W.condP (fun h => ?_) (fun h => ?_) <;> (fail_if_success (have : h = trivial := rfl)) <;> (fail_if_success (have : h = not_false := rfl)) <;> first | contradiction | (exfalso; omega) | (exfalso; revert h; simp; done) | skip) | refine SL.W.condB (fun h => ?_) (fun h => ?_)) | (refine SL.TD.is ?_; first | (refine SL.W.dfin ?_; simp only [List.append_nil, List.cons_append, List.nil_append]) | refine SL.W.dpass ?_ | refine SL.W.dpure ?_ | refine SL.W.dload ?_ | refine SL.W.dloadA ?_ | refine SL.W.dfrz ?_ | (refine SL.W.dthaw ?_; simp only [List.append_nil, List.cons_append, List.nil_append]) | (refine SL.W.dguardP (fun h => ?_) (fun h => ?_) <;> (fail_if_success (have : h = trivial := rfl)) <;> (fail_if_success (have : h = not_false := rfl)) <;> first | contradiction | (exfalso; omega) | (exfalso; revert h; simp; done) | skip) | (refine SL.W.dguardB (fun h => ?_) (fun h => ?_) <;> (fail_if_success (have : h = (rfl : true = true) := rfl)) <;> (fail_if_success (have : h = (rfl : false = false) := rfl))) | refine SL.W.done ?_ | refine SL.W.dtwo ?_ ?_ | refine SL.W.dthree ?_ ?_ ?_))
      all_goals exact SL.TK.retD Try.func22 (SL.Res.one rfl (by rfl)) ⟨rfl, rfl⟩ (EntD.cons (by first | ((repeat (first | exact SL.Pick.head | apply SL.Pick.tail)); done) | fail) (EntD.cons (by first | ((repeat (first | exact SL.Pick.head | apply SL.Pick.tail)); done) | fail) (EntD.cons (by first | ((repeat (first | exact SL.Pick.head | apply SL.Pick.tail)); done) | fail) EntD.nil)))
    · have hs := mkSet_spec x long cl pos T
      have hD : doM what cl pos (us.take 20) long T = (if 0 ≤ pos ∧ pos ≤ long then 0 else 30, long, if 0 ≤ pos ∧ pos ≤ long then iup cl pos T else T) := by unfold doM; rw [if_neg h1, if_neg h2]
      rw [hD]
      dsimp only
      obtain ⟨E, hE⟩ : ∃ E : Int, E = if 0 ≤ pos ∧ pos ≤ long then 0 else 30 := ⟨_, rfl⟩
      obtain ⟨T2, hT2⟩ : ∃ T2, T2 = if 0 ≤ pos ∧ pos ≤ long then iup cl pos T else T := ⟨_, rfl⟩
      rw [← hT2, ← hE] at hs ⊢
      have hsH := Lib.hid hs
      clear hs hD hE hT2 hTb htk hlm hX h hN
      refine SL.Spec.of_TK Go.Proofs.Try.func22 rfl rfl SL.call22 rfl ?_
      repeat' (first | (refine SL.TO.is ?_; first | (refine SL.TO.door (o := ⟨_, .call ⟨.value (.func 14), _, _⟩, _, _, _, _⟩) ?_; first | (refine SL.W.call (hsH.out) ?_; rintro _ _ ⟨rfl, rfl⟩; try simp only [List.cons_append, List.nil_append])) | refine SL.TO.nil ?_ | (refine SL.TO.nilD ?_; simp only [SL.setB]) | refine SL.W.pass ?_ | refine SL.W.pass0 ?_ | (refine SL.W.pure ?_; first | refine SL.W.pv ?_ | refine SL.W.pv0 ?_ | refine SL.W.lenMp ?_ | (refine SL.W.guardP (fun h => ?_) (fun h => ?_) <;> (fail_if_success (have : h = trivial := rfl)) <;> (fail_if_success (have : h = not_false := rfl)) <;> first | contradiction | (exfalso; omega) | (exfalso; revert h; simp; done) | skip) | (refine SL.W.guardB (fun h => ?_) (fun h => ?_) <;> (fail_if_success (have : h = (rfl : true = true) := rfl)) <;> (fail_if_success (have : h = (rfl : false = false) := rfl)))) | (refine SL.W.loud ?_; first | refine SL.W.load ?_ | refine SL.W.loadA ?_ | refine SL.W.store ?_ | refine SL.W.storeA ?_ | (refine SL.W.box ?_; intro b) | (refine SL.W.alloc ?_; intro b) | (refine SL.W.buildSlice ?_; intro b) | (refine SL.W.append ?_; intro a cap) | refine SL.W.bytesToStr ?_ | refine SL.W.pvn (SL.PV.toIntC (by rfl) (by first | exact SL.wrap_i64 (by omega) | exact SL.wrap_u8 (by omega) | exact SL.wrap_u32 (by omega) | exact SL.wrap_u64 (by omega) | rfl)) ?_ | (refine SL.W.makeSlice ?_; intro b) | refine SL.W.lookupOk ?_ | refine SL.W.lookup ?_ | (refine SL.W.makeMap ?_; intro b) | refine SL.W.mapUpdate ?_ | (refine SL.W.mapEntry ?_; intro stamp) | refine SL.W.entryStore ?_ | (refine SL.W.range ?_; intro it) | refine SL.W.delete ?_ | (refine SL.W.guardP (fun h => ?_) (fun h => ?_) <;> (fail_if_success (have : h = trivial := rfl)) <;> (fail_if_success (have : h = not_false := rfl)) <;> first | contradiction | (exfalso; omega) | (exfalso; revert h; simp; done) | skip) | (refine SL.W.guardB (fun h => ?_) (fun h => ?_) <;> (fail_if_success (have : h = (rfl : true = true) := rfl)) <;> (fail_if_success (have : h = (rfl : false = false) := rfl))))) | (refine SL.TK.is ?_; first | refine SL.TK.seq ?_ | refine SL.TK.region ?_ | refine SL.TK.regionD SL.mixed (by simp only [SL.falses] <;> rfl) ?_ | refine SL.TK.block ?_ | refine SL.TK.inBlock ?_ | refine SL.TK.skip ?_ | refine SL.TK.scope ?_ | refine SL.TK.inScope ?_ | refine SL.TK.label ?_ | refine SL.W.exit ?_ | refine SL.W.condT ?_ | refine SL.W.condF ?_ | (refine SL.W.condP (fun h => ?_) (fun h => ?_) <;> (fail_if_success (have : h = trivial := rfl)) <;> (fail_if_success (have : h = not_false := rfl)) <;> first | contradiction | (exfalso; omega) | (exfalso; revert h; simp; done) | skip) | refine SL.W.condB (fun h => ?_) (fun h => ?_)) | (refine SL.TD.is ?_; first | (refine SL.W.dfin ?_; simp only [List.append_nil, List.cons_append, List.nil_append]) | refine SL.W.dpass ?_ | refine SL.W.dpure ?_ | refine SL.W.dload ?_ | refine SL.W.dloadA ?_ | refine SL.W.dfrz ?_ | (refine SL.W.dthaw ?_; simp only [List.append_nil, List.cons_append, List.nil_append]) | (refine SL.W.dguardP (fun h => ?_) (fun h => ?_) <;> (fail_if_success (have : h = trivial := rfl)) <;> (fail_if_success (have : h = not_false := rfl)) <;> first | contradiction | (exfalso; omega) | (exfalso; revert h; simp; done) | skip) | (refine SL.W.dguardB (fun h => ?_) (fun h => ?_) <;> (fail_if_success (have : h = (rfl : true = true) := rfl)) <;> (fail_if_success (have : h = (rfl : false = false) := rfl))) | refine SL.W.done ?_ | refine SL.W.dtwo ?_ ?_ | refine SL.W.dthree ?_ ?_ ?_))
      all_goals exact SL.TK.retD Try.func22 (SL.Res.one rfl (by rfl)) ⟨rfl, rfl⟩ (EntD.cons (by first | ((repeat (first | exact SL.Pick.head | apply SL.Pick.tail)); done) | fail) (EntD.cons (by first | ((repeat (first | exact SL.Pick.head | apply SL.Pick.tail)); done) | fail) (EntD.cons (by first | ((repeat (first | exact SL.Pick.head | apply SL.Pick.tail)); done) | fail) EntD.nil)))
/-- what is left of the marks that are changed alone -/
theorem jmSet (y : Nat) (q : Int) : Spec Try.prog 14 [.pointer (some ⟨y, 0, none⟩), .int .u32 q, .int .i64 0] [JunkMk y] (fun r L => L = [JunkMk y]) := by
  refine SL.Spec.openEx (pre' := fun S : { S : Int × As2 // JmOk S } => [MarksAt y S.1.1 S.1.2]) ⟨⟨(0, []), ⟨by decide, by simp⟩⟩⟩ ex_open (fun S => ?_)
  refine SL.Spec.postD (mkSet_spec y S.1.1 q 0 S.1.2) ?_
  rintro v L ⟨rfl, rfl⟩
  refine ⟨_, rfl, EntD.frm (by first | ((repeat (first | exact SL.Frm.nil | exact SL.Frm.refl | (apply SL.Frm.cons; repeat (first | exact SL.Pick.head | apply SL.Pick.tail)))); done) | fail) (jm_in (y := y) (long := S.1.1) (T := if 0 ≤ (0 : Int) ∧ (0 : Int) ≤ S.1.1 then iup q 0 S.1.2 else S.1.2) ⟨S.2.1, fun p hp => ?_⟩) EntD.nil⟩
  split at hp
  · rcases mp_mem hp with rfl | hp
    · exact ⟨Int.le_refl _, by show (0 : Int) ≤ 1000000; decide⟩
    · exact S.2.2 p hp
  · exact S.2.2 p hp
theorem jmGo (y b n cap : Nat) (hn : n = 1) : Spec Try.prog 16 [.pointer (some ⟨y, 0, none⟩), .slice (some ⟨b, 0, none⟩) n cap] [JunkMk y, own 57 5 (some ⟨b, 0, none⟩) n cap (unV uIns)] (fun r L => L = []) := by
  subst hn
  refine SL.Spec.openEx (pre' := fun S : { S : Int × As2 // JmOk S } => [MarksAt y S.1.1 S.1.2, own 57 5 (some ⟨b, 0, none⟩) 1 cap (unV uIns)]) ⟨⟨(0, []), ⟨by decide, by simp⟩⟩⟩ jm_open (fun S => ?_)
  refine SL.Spec.postD (mkGo_spec (some ⟨b, 0, none⟩) cap y S.1.1 [uIns] S.1.2 (row_one b 1 cap uIns) (by decide) (by have := S.2.1; omega) (fun p hp => by have := S.2.2 p hp; omega)) ?_
  rintro v L ⟨rfl, rfl⟩
  exact ⟨_, rfl, EntD.nil⟩
end SL
