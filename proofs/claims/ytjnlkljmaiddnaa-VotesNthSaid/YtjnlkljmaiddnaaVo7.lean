/-
  The reference's Nth: the plain law.
-/
import Derived.Test.YtjnlkljmaiddnaaVo4
set_option linter.unusedVariables false
set_option linter.unusedSimpArgs false
set_option maxRecDepth 10000
namespace SL
open Go Go.Proofs Go.RowKit

/-! the greatest, as often as must be -/
/-- the place of the first greatest among the first i (at least one) -/
def mxAt (xs : List Int) : Nat → Nat
  | 0 => 0
  | i + 1 => if nat_ xs (mxAt xs i) < nat_ xs i then i else mxAt xs i
theorem mxAt_lt (xs : List Int) (i : Nat) (h : 0 < i) : mxAt xs i < i := by
  induction i with
  | zero => omega
  | succ i ih =>
    simp only [mxAt]
    split
    · omega
    · by_cases e : i = 0
      · subst e; simp [mxAt]
      · have := ih (by omega); omega
theorem mxAt_max (xs : List Int) (i : Nat) : ∀ j, j < i → nat_ xs j ≤ nat_ xs (mxAt xs i) := by
  induction i with
  | zero => intro j h; omega
  | succ i ih =>
    intro j h
    simp only [mxAt]
    split
    · rename_i hlt
      by_cases e : j = i
      · subst e; exact Int.le_refl _
      · have := ih j (by omega); omega
    · rename_i hlt
      by_cases e : j = i
      · subst e; omega
      · exact ih j (by omega)
/-- without the number at a place -/
def rmv (xs : List Int) (j : Nat) : List Int := xs.take j ++ xs.drop (j + 1)
theorem rmv_len {xs : List Int} {j : Nat} (h : j < xs.length) : (rmv xs j).length = xs.length - 1 := by
  simp only [rmv, List.length_append, List.length_take, List.length_drop]; omega
theorem rmv_perm {xs : List Int} {j : Nat} (h : j < xs.length) : xs.Perm (nat_ xs j :: rmv xs j) := by
  have h1 : xs = xs.take j ++ (nat_ xs j :: xs.drop (j + 1)) := by
    rw [← nat_eq h, ← List.drop_eq_getElem_cons h, List.take_append_drop]
  exact (List.Perm.of_eq h1).trans List.perm_middle
theorem srt_rmv {xs : List Int} (h : 0 < xs.length) : srt xs = srt (rmv xs (mxAt xs xs.length)) ++ [nat_ xs (mxAt xs xs.length)] := by
  have hlt := mxAt_lt xs xs.length h
  refine sorted_unique (srt_sorted _) ?_ ?_
  · rw [List.pairwise_append]
    refine ⟨srt_sorted _, by simp, fun a ha b hb => ?_⟩
    obtain rfl : b = nat_ xs (mxAt xs xs.length) := by simpa using hb
    have ha1 : a ∈ xs := (rmv_perm hlt).mem_iff.2 (List.mem_cons_of_mem _ (mem_srt.1 ha))
    obtain ⟨i, hi, rfl⟩ := List.getElem_of_mem ha1
    rw [nat_eq hi]
    exact mxAt_max xs xs.length i hi
  · exact (srt_perm xs).trans ((rmv_perm hlt).trans (((srt_perm _).symm.cons _).trans (List.perm_append_singleton _ _).symm))
theorem srt_last {xs : List Int} (h : 0 < xs.length) : nat_ (srt xs) (xs.length - 1) = nat_ xs (mxAt xs xs.length) := by
  have hl := rmv_len (mxAt_lt xs xs.length h)
  rw [srt_rmv h]
  unfold nat_
  rw [List.getD_eq_getElem?_getD, List.getElem?_append_right (by rw [srt_length, hl]; exact Nat.le_refl _), srt_length, hl]
  simp
theorem srt_less {xs : List Int} {i : Nat} (h : i + 1 < xs.length) : nat_ (srt xs) i = nat_ (srt (rmv xs (mxAt xs xs.length))) i := by
  have hl := rmv_len (mxAt_lt xs xs.length (by omega))
  rw [srt_rmv (by omega)]
  unfold nat_
  rw [List.getD_eq_getElem?_getD, List.getElem?_append_left (by rw [srt_length, hl]; omega), ← List.getD_eq_getElem?_getD]

theorem src_row {P : Program} {L r : List HProp} {X : HProp} {p : Option Addr} {xs : List Int} {len cap : Nat} (hX : RdRow X p xs) (hk : Pick L X r) (hl : xs.length = len) : Src P L 1 len (.slice p len cap) (xs.map iv) := by
  refine ⟨by simp [hl], fun w0 F w s => ⟨?_, by simp [Builtin.lenOf]⟩⟩
  cases p with
  | none =>
    have := hX.nil rfl
    subst this
    subst hl
    simp [Builtin.firstCells]
  | some q =>
    simp only [Builtin.firstCells, Nat.mul_one]
    have := run_loadCells_list (P := P) w q (xs.map iv) fun j v hj => ?_
    · rw [List.length_map, hl] at this
      exact this
    · rw [List.getElem?_map, Option.map_eq_some_iff] at hj
      obtain ⟨z, hz, rfl⟩ := hj
      have hj2 : j < xs.length := (List.getElem?_eq_some_iff.1 hz).1
      have h1 := hX.at_ q rfl j hj2 w0 L r F w s hk 0 (iv (nat_ xs j)) rfl
      rw [Nat.mul_one, show (q.add j).add 0 = q.add j from by simp [Addr.add]] at h1
      rw [h1, ← nat_eq hj2, (List.getElem?_eq_some_iff.1 hz).2]
theorem put_rmv {ys : List Int} {ex : List Value} {j n : Nat} (hn : ys.length = n) (hj : j < n) : PutAt (ys.map iv ++ ex) (0 + j * 1) ((ys.drop (j + 1)).map iv) ((rmv ys j).map iv ++ (ys.map iv ++ ex).drop (n - 1)) := by
  refine PutAt.intro ?_ ?_
  · simp only [List.length_append, List.length_map, List.length_drop]; omega
  · rw [Nat.mul_one, Nat.zero_add, List.length_map, List.length_drop, hn, show j + (n - (j + 1)) = n - 1 from by omega, List.take_append_of_le_length (by simp; omega)]
    simp only [rmv, List.map_append, List.map_take]
theorem cut_drop {ys : List Int} {ex : List Value} {j n : Nat} (hn : ys.length = n) (hj : j < n) : Cut (ys.map iv ++ ex) (0 + (j + 1) * 1) ((n - (j + 1)) * 1) ((ys.drop (j + 1)).map iv) := by
  refine Cut.intro (by simp; omega) fun i v hi => ?_
  have hl : i < (ys.drop (j + 1)).length := by simpa using (List.getElem?_eq_some_iff.1 hi).1
  rw [List.length_drop] at hl
  rw [Nat.mul_one, Nat.zero_add, List.getElem?_append_left (by simp; omega)]
  rw [List.getElem?_map, List.getElem?_drop] at hi
  rw [List.getElem?_map]
  exact hi
attribute [local irreducible] SL.TK SL.TO SL.TD SL.PV SL.Pick SL.Frm SL.Ent SL.Sub SL.EvAll SL.seps SL.sep SL.Cut SL.PutAt SL.blk SL.EvP SL.Fill SL.Src SL.EntD SL.own SL.ex SL.fact SL.orig

def rn1 (bk n cap : Nat) (kk : Int) (ys : List Int) (ex : List Value) (X : HProp) (ρ : Env) (L : List HProp) (m : Nat) : Prop := ∃ i : Nat, 1 ≤ i ∧ i ≤ n ∧
  ρ = [(1, .int .i64 kk), (6, .slice (some ⟨bk, 0, none⟩) n cap), (7, .int .i64 (mxAt ys i)), (8, .int .i64 i)] ∧ L = [SL.blk bk 23 (ys.map iv ++ ex), X] ∧ m = n - i
theorem rn_inner {post : Post} {k : List Item} (bk n cap : Nat) (kk : Int) (ys : List Int) (ex : List Value) (X : HProp) (hn : ys.length = n) (h1 : 1 ≤ n) (h255 : n ≤ 255)
    (hk : TK Try.prog 15 Try.f15.ntmps post k [(1, .int .i64 kk), (6, .slice (some ⟨bk, 0, none⟩) n cap), (7, .int .i64 (mxAt ys n))] [SL.blk bk 23 (ys.map iv ++ ex), X]) :
    TK Try.prog 15 Try.f15.ntmps post (.code (loopAt Try.f15 1) :: k) [(1, .int .i64 kk), (6, .slice (some ⟨bk, 0, none⟩) n cap), (7, .int .i64 0), (8, .int .i64 1)] [SL.blk bk 23 (ys.map iv ++ ex), X] := by
  have hkH := Lib.hid hk
  clear hk
  have h01 : mxAt ys 1 = 0 := by simp [mxAt]
  refine SL.TK.block ?_
  refine SL.TK.loopD (rn1 bk n cap kk ys ex X) ?_ ⟨1, Nat.le_refl _, h1, rfl, rfl, rfl⟩ (SL.Sub.cons (by rfl) rfl (SL.Sub.cons (by rfl) rfl (SL.Sub.cons (by rfl) (int_eq (by rw [h01]; rfl)) (SL.Sub.cons (by rfl) rfl SL.Sub.nil)))) EntD.refl
  rintro ρ L m ⟨i, h1i, hi, rfl, rfl, rfl⟩ ih
  by_cases hlt : i < n
  · have ha := mxAt_lt ys i (by omega)
    have ni := nth_ints (xs := ys) (ex := ex) (i := i) (by omega)
    have na := nth_ints (xs := ys) (ex := ex) (i := mxAt ys i) (by omega)
    have hst : mxAt ys (i + 1) = if nat_ ys (mxAt ys i) < nat_ ys i then i else mxAt ys i := rfl
    obtain ⟨at_, hat⟩ : ∃ x, x = mxAt ys i := ⟨_, rfl⟩
    obtain ⟨vi, hvi⟩ : ∃ x, x = nat_ ys i := ⟨_, rfl⟩
    obtain ⟨va, hva⟩ : ∃ x, x = nat_ ys at_ := ⟨_, rfl⟩
    rw [← hat] at hst na ha ⊢
    rw [← hvi] at hst ni
    rw [← hva] at hst na
    have hsH := Lib.hid hst
    clear hst hat hvi hva hkH h01
    repeat' (first | (refine SL.TO.is ?_; first | (refine SL.TO.door (o := ⟨_, .load _ _, _, _, _, _⟩) ?_; first | refine SL.W.loadN ni ?_ | refine SL.W.loadN na ?_) | refine SL.TO.nil ?_ | (refine SL.TO.nilD ?_; simp only [SL.setB]) | refine SL.W.pass ?_ | refine SL.W.pass0 ?_ | (refine SL.W.pure ?_; first | refine SL.W.pv ?_ | refine SL.W.pv0 ?_ | refine SL.W.lenMp ?_ | (refine SL.W.guardP (fun h => ?_) (fun h => ?_) <;> (fail_if_success (have : h = trivial := rfl)) <;> (fail_if_success (have : h = not_false := rfl)) <;> first | contradiction | (exfalso; omega) | (exfalso; revert h; simp; done) | skip) | (refine SL.W.guardB (fun h => ?_) (fun h => ?_) <;> (fail_if_success (have : h = (rfl : true = true) := rfl)) <;> (fail_if_success (have : h = (rfl : false = false) := rfl)))) | (refine SL.W.loud ?_; first | refine SL.W.load ?_ | refine SL.W.loadA ?_ | refine SL.W.store ?_ | refine SL.W.storeA ?_ | (refine SL.W.box ?_; intro b) | (refine SL.W.alloc ?_; intro b) | (refine SL.W.buildSlice ?_; intro b) | (refine SL.W.append ?_; intro a cap) | refine SL.W.bytesToStr ?_ | refine SL.W.pvn (SL.PV.toIntC (by rfl) (by first | exact SL.wrap_i64 (by omega) | exact SL.wrap_u8 (by omega) | exact SL.wrap_u32 (by omega) | exact SL.wrap_u64 (by omega) | rfl)) ?_ | (refine SL.W.makeSlice ?_; intro b) | refine SL.W.lookupOk ?_ | refine SL.W.lookup ?_ | (refine SL.W.makeMap ?_; intro b) | refine SL.W.mapUpdate ?_ | (refine SL.W.mapEntry ?_; intro stamp) | refine SL.W.entryStore ?_ | (refine SL.W.range ?_; intro it) | refine SL.W.delete ?_ | (refine SL.W.guardP (fun h => ?_) (fun h => ?_) <;> (fail_if_success (have : h = trivial := rfl)) <;> (fail_if_success (have : h = not_false := rfl)) <;> first | contradiction | (exfalso; omega) | (exfalso; revert h; simp; done) | skip) | (refine SL.W.guardB (fun h => ?_) (fun h => ?_) <;> (fail_if_success (have : h = (rfl : true = true) := rfl)) <;> (fail_if_success (have : h = (rfl : false = false) := rfl))))) | (refine SL.TK.is ?_; first | refine SL.TK.seq ?_ | refine SL.TK.region ?_ | refine SL.TK.regionD SL.mixed (by simp only [SL.falses] <;> rfl) ?_ | refine SL.TK.block ?_ | refine SL.TK.inBlock ?_ | refine SL.TK.skip ?_ | refine SL.TK.scope ?_ | refine SL.TK.inScope ?_ | refine SL.TK.label ?_ | refine SL.W.exit ?_ | refine SL.W.condT ?_ | refine SL.W.condF ?_ | (refine SL.W.condP (fun h => ?_) (fun h => ?_) <;> (fail_if_success (have : h = trivial := rfl)) <;> (fail_if_success (have : h = not_false := rfl)) <;> first | contradiction | (exfalso; omega) | (exfalso; revert h; simp; done) | skip) | refine SL.W.condB (fun h => ?_) (fun h => ?_)) | (refine SL.TD.is ?_; first | refine SL.W.dloadN ni ?_ | refine SL.W.dloadN na ?_ | (refine SL.W.dfin ?_; simp only [List.append_nil, List.cons_append, List.nil_append]) | refine SL.W.dpass ?_ | refine SL.W.dpure ?_ | refine SL.W.dload ?_ | refine SL.W.dloadA ?_ | refine SL.W.dfrz ?_ | (refine SL.W.dthaw ?_; simp only [List.append_nil, List.cons_append, List.nil_append]) | (refine SL.W.dguardP (fun h => ?_) (fun h => ?_) <;> (fail_if_success (have : h = trivial := rfl)) <;> (fail_if_success (have : h = not_false := rfl)) <;> first | contradiction | (exfalso; omega) | (exfalso; revert h; simp; done) | skip) | (refine SL.W.dguardB (fun h => ?_) (fun h => ?_) <;> (fail_if_success (have : h = (rfl : true = true) := rfl)) <;> (fail_if_success (have : h = (rfl : false = false) := rfl))) | refine SL.W.done ?_ | refine SL.W.dtwo ?_ ?_ | refine SL.W.dthree ?_ ?_ ?_))
    all_goals
      refine SL.TK.againD ih ⟨i + 1, by omega, by omega, rfl, rfl, rfl⟩ (SL.Sub.cons (by rfl) rfl (SL.Sub.cons (by rfl) rfl (SL.Sub.cons (by rfl) (int_eq (by rw [hsH.out]; split <;> omega)) (SL.Sub.cons (by rfl) (int_eq (by omega)) SL.Sub.nil)))) EntD.refl (by omega)
  · have hin : i = n := by omega
    subst hin
    obtain ⟨at_, hat⟩ : ∃ x, x = mxAt ys i := ⟨_, rfl⟩
    rw [← hat] at hkH ⊢
    clear ih h01 hat
    repeat' (first | (refine SL.TO.is ?_; first | refine SL.TO.nil ?_ | (refine SL.TO.nilD ?_; simp only [SL.setB]) | refine SL.W.pass ?_ | refine SL.W.pass0 ?_ | (refine SL.W.pure ?_; first | refine SL.W.pv ?_ | refine SL.W.pv0 ?_ | refine SL.W.lenMp ?_ | (refine SL.W.guardP (fun h => ?_) (fun h => ?_) <;> (fail_if_success (have : h = trivial := rfl)) <;> (fail_if_success (have : h = not_false := rfl)) <;> first | contradiction | (exfalso; omega) | (exfalso; revert h; simp; done) | skip) | (refine SL.W.guardB (fun h => ?_) (fun h => ?_) <;> (fail_if_success (have : h = (rfl : true = true) := rfl)) <;> (fail_if_success (have : h = (rfl : false = false) := rfl)))) | (refine SL.W.loud ?_; first | refine SL.W.load ?_ | refine SL.W.loadA ?_ | refine SL.W.store ?_ | refine SL.W.storeA ?_ | (refine SL.W.box ?_; intro b) | (refine SL.W.alloc ?_; intro b) | (refine SL.W.buildSlice ?_; intro b) | (refine SL.W.append ?_; intro a cap) | refine SL.W.bytesToStr ?_ | refine SL.W.pvn (SL.PV.toIntC (by rfl) (by first | exact SL.wrap_i64 (by omega) | exact SL.wrap_u8 (by omega) | exact SL.wrap_u32 (by omega) | exact SL.wrap_u64 (by omega) | rfl)) ?_ | (refine SL.W.makeSlice ?_; intro b) | refine SL.W.lookupOk ?_ | refine SL.W.lookup ?_ | (refine SL.W.makeMap ?_; intro b) | refine SL.W.mapUpdate ?_ | (refine SL.W.mapEntry ?_; intro stamp) | refine SL.W.entryStore ?_ | (refine SL.W.range ?_; intro it) | refine SL.W.delete ?_ | (refine SL.W.guardP (fun h => ?_) (fun h => ?_) <;> (fail_if_success (have : h = trivial := rfl)) <;> (fail_if_success (have : h = not_false := rfl)) <;> first | contradiction | (exfalso; omega) | (exfalso; revert h; simp; done) | skip) | (refine SL.W.guardB (fun h => ?_) (fun h => ?_) <;> (fail_if_success (have : h = (rfl : true = true) := rfl)) <;> (fail_if_success (have : h = (rfl : false = false) := rfl))))) | (refine SL.TK.is ?_; first | (refine SL.TK.weakD (by first | ((repeat (first | exact SL.Sub.nil | refine SL.Sub.cons (by rfl) (by first | rfl | exact SL.int_eq (by omega)) ?_)); done) | fail) EntD.refl hkH.out) | refine SL.TK.seq ?_ | refine SL.TK.region ?_ | refine SL.TK.regionD SL.mixed (by simp only [SL.falses] <;> rfl) ?_ | refine SL.TK.block ?_ | refine SL.TK.inBlock ?_ | refine SL.TK.skip ?_ | refine SL.TK.scope ?_ | refine SL.TK.inScope ?_ | refine SL.TK.label ?_ | refine SL.W.exit ?_ | refine SL.W.condT ?_ | refine SL.W.condF ?_ | (refine SL.W.condP (fun h => ?_) (fun h => ?_) <;> (fail_if_success (have : h = trivial := rfl)) <;> (fail_if_success (have : h = not_false := rfl)) <;> first | contradiction | (exfalso; omega) | (exfalso; revert h; simp; done) | skip) | refine SL.W.condB (fun h => ?_) (fun h => ?_)) | (refine SL.TD.is ?_; first | (refine SL.W.dfin ?_; simp only [List.append_nil, List.cons_append, List.nil_append]) | refine SL.W.dpass ?_ | refine SL.W.dpure ?_ | refine SL.W.dload ?_ | refine SL.W.dloadA ?_ | refine SL.W.dfrz ?_ | (refine SL.W.dthaw ?_; simp only [List.append_nil, List.cons_append, List.nil_append]) | (refine SL.W.dguardP (fun h => ?_) (fun h => ?_) <;> (fail_if_success (have : h = trivial := rfl)) <;> (fail_if_success (have : h = not_false := rfl)) <;> first | contradiction | (exfalso; omega) | (exfalso; revert h; simp; done) | skip) | (refine SL.W.dguardB (fun h => ?_) (fun h => ?_) <;> (fail_if_success (have : h = (rfl : true = true) := rfl)) <;> (fail_if_success (have : h = (rfl : false = false) := rfl))) | refine SL.W.done ?_ | refine SL.W.dtwo ?_ ?_ | refine SL.W.dthree ?_ ?_ ?_))

def rn0 (bk cap : Nat) (x : Int) (X : HProp) (ρ : Env) (L : List HProp) (m : Nat) : Prop := ∃ (n kk : Nat) (ys : List Int) (ex : List Value), ys.length = n ∧ 1 ≤ kk ∧ kk ≤ n ∧ n ≤ 255 ∧ n ≤ cap ∧ nat_ (srt ys) (n - kk) = x ∧
  ρ = [(1, .int .i64 kk), (6, .slice (some ⟨bk, 0, none⟩) n cap)] ∧ L = [SL.blk bk 23 (ys.map iv ++ ex), X] ∧ m = kk + 1
set_option maxHeartbeats 1000000 in
theorem refNth_spec (len cap : Nat) (p : Option Addr) (X : HProp) (xs : List Int) (hl : xs.length = len) (h255 : len ≤ 255) (hX : RdRow X p xs) (k : Int) (hk : -9223372036854775808 ≤ k ∧ k ≤ 9223372036854775807) :
    Spec Try.prog 15 [.slice p len cap, .int .i64 k] [X] (fun r L => r = nthR xs k ∧ L = [X]) := by
  have hR : nthR xs k = .tuple #[iv (if 1 ≤ k ∧ k ≤ len then nat_ (srt xs) (len - k.toNat) else 0), .bool (decide (1 ≤ k ∧ k ≤ len))] := by rw [nthR, hl]
  have hRH := Lib.hid hR
  clear hR
  by_cases hin : 1 ≤ k ∧ k ≤ len
  · obtain ⟨kk, rfl⟩ : ∃ kk : Nat, k = (kk : Int) := ⟨k.toNat, by omega⟩
    rw [if_pos hin, decide_eq_true hin, show ((kk : Int)).toNat = kk from by omega] at hRH
    obtain ⟨x, hx⟩ : ∃ x, nat_ (srt xs) (len - kk) = x := ⟨_, rfl⟩
    rw [hx] at hRH
    obtain ⟨h1, h2⟩ := hin
    have hsrc (L r : List HProp) (hp : Pick L X r) := src_row (P := Try.prog) (cap := cap) hX hp hl
    have hsH := Lib.hid hsrc
    have h1c := one_ints xs
    have hxH := Lib.hid (And.intro hl hx)
    obtain ⟨cs, hcs⟩ : ∃ cs, cs = xs.map iv := ⟨_, rfl⟩
    have hcH := Lib.hid hcs
    rw [← hcs] at hsH h1c
    clear hsrc hX hl hx hcs
    refine SL.Spec.of_TK Go.Proofs.Try.func15 rfl rfl SL.call15 rfl ?_
    refine SL.TK.entD (L' := [X, own 23 1 none 0 0 []]) (EntD.of_ent (Ent.cons (by first | ((repeat (first | exact SL.Pick.head | apply SL.Pick.tail)); done) | fail) (Ent.own_nil Ent.refl))) ?_
    repeat' (first | (refine SL.TO.is ?_; first | (refine SL.TO.door (o := ⟨_, .call ⟨.builtin .append, _, _⟩, _, _, _, _⟩) ?_; first | (refine SL.W.append (hs := hsH.out _ _ (by first | ((repeat (first | exact SL.Pick.head | apply SL.Pick.tail)); done) | fail)) ?_; intro a7 c7)) | refine SL.TO.nil ?_ | (refine SL.TO.nilD ?_; simp only [SL.setB]) | refine SL.W.pass ?_ | refine SL.W.pass0 ?_ | (refine SL.W.pure ?_; first | refine SL.W.pv ?_ | refine SL.W.pv0 ?_ | refine SL.W.lenMp ?_ | (refine SL.W.guardP (fun h => ?_) (fun h => ?_) <;> (fail_if_success (have : h = trivial := rfl)) <;> (fail_if_success (have : h = not_false := rfl)) <;> first | contradiction | (exfalso; omega) | (exfalso; revert h; simp; done) | skip) | (refine SL.W.guardB (fun h => ?_) (fun h => ?_) <;> (fail_if_success (have : h = (rfl : true = true) := rfl)) <;> (fail_if_success (have : h = (rfl : false = false) := rfl)))) | (refine SL.W.loud ?_; first | refine SL.W.load ?_ | refine SL.W.loadA ?_ | refine SL.W.store ?_ | refine SL.W.storeA ?_ | (refine SL.W.box ?_; intro b) | (refine SL.W.alloc ?_; intro b) | (refine SL.W.buildSlice ?_; intro b) | (refine SL.W.append ?_; intro a cap) | refine SL.W.bytesToStr ?_ | refine SL.W.pvn (SL.PV.toIntC (by rfl) (by first | exact SL.wrap_i64 (by omega) | exact SL.wrap_u8 (by omega) | exact SL.wrap_u32 (by omega) | exact SL.wrap_u64 (by omega) | rfl)) ?_ | (refine SL.W.makeSlice ?_; intro b) | refine SL.W.lookupOk ?_ | refine SL.W.lookup ?_ | (refine SL.W.makeMap ?_; intro b) | refine SL.W.mapUpdate ?_ | (refine SL.W.mapEntry ?_; intro stamp) | refine SL.W.entryStore ?_ | (refine SL.W.range ?_; intro it) | refine SL.W.delete ?_ | (refine SL.W.guardP (fun h => ?_) (fun h => ?_) <;> (fail_if_success (have : h = trivial := rfl)) <;> (fail_if_success (have : h = not_false := rfl)) <;> first | contradiction | (exfalso; omega) | (exfalso; revert h; simp; done) | skip) | (refine SL.W.guardB (fun h => ?_) (fun h => ?_) <;> (fail_if_success (have : h = (rfl : true = true) := rfl)) <;> (fail_if_success (have : h = (rfl : false = false) := rfl))))) | (refine SL.TK.lp ?_; first | (refine Stop.out ?_)) | (refine SL.TK.is ?_; first | refine SL.TK.seq ?_ | refine SL.TK.region ?_ | refine SL.TK.regionD SL.mixed (by simp only [SL.falses] <;> rfl) ?_ | refine SL.TK.block ?_ | refine SL.TK.inBlock ?_ | refine SL.TK.skip ?_ | refine SL.TK.scope ?_ | refine SL.TK.inScope ?_ | refine SL.TK.label ?_ | refine SL.W.exit ?_ | refine SL.W.condT ?_ | refine SL.W.condF ?_ | (refine SL.W.condP (fun h => ?_) (fun h => ?_) <;> (fail_if_success (have : h = trivial := rfl)) <;> (fail_if_success (have : h = not_false := rfl)) <;> first | contradiction | (exfalso; omega) | (exfalso; revert h; simp; done) | skip) | refine SL.W.condB (fun h => ?_) (fun h => ?_)) | (refine SL.TD.is ?_; first | (refine SL.W.dfin ?_; simp only [List.append_nil, List.cons_append, List.nil_append]) | refine SL.W.dpass ?_ | refine SL.W.dpure ?_ | refine SL.W.dload ?_ | refine SL.W.dloadA ?_ | refine SL.W.dfrz ?_ | (refine SL.W.dthaw ?_; simp only [List.append_nil, List.cons_append, List.nil_append]) | (refine SL.W.dguardP (fun h => ?_) (fun h => ?_) <;> (fail_if_success (have : h = trivial := rfl)) <;> (fail_if_success (have : h = not_false := rfl)) <;> first | contradiction | (exfalso; omega) | (exfalso; revert h; simp; done) | skip) | (refine SL.W.dguardB (fun h => ?_) (fun h => ?_) <;> (fail_if_success (have : h = (rfl : true = true) := rfl)) <;> (fail_if_success (have : h = (rfl : false = false) := rfl))) | refine SL.W.done ?_ | refine SL.W.dtwo ?_ ?_ | refine SL.W.dthree ?_ ?_ ?_))
    refine Stop.mk ?_
    rw [hcH.out]
    refine SL.TK.ownPos (e := 23) (sz := 1) (a := a7) (by first | ((repeat (first | exact SL.Pick.head | apply SL.Pick.tail)); done) | fail) (by omega) (fun bk ex ea e1 e2 e3 => ?_)
    subst ea
    clear e1 e2 hsH h1c
    refine SL.TK.block ?_
    refine SL.TK.loopD (rn0 bk c7 x X) ?_ ⟨len, kk, xs, ex, hxH.out.1, by omega, by omega, h255, e3, hxH.out.2, rfl, rfl, rfl⟩ (by first | ((repeat (first | exact SL.Sub.nil | refine SL.Sub.cons (by rfl) (by first | rfl | exact SL.int_eq (by omega)) ?_)); done) | fail) (EntD.cons (by first | ((repeat (first | exact SL.Pick.head | apply SL.Pick.tail)); done) | fail) (EntD.cons (by first | ((repeat (first | exact SL.Pick.head | apply SL.Pick.tail)); done) | fail) EntD.nil))
    clear e3 hxH hcH h1 h2 hk
    rintro ρ L m ⟨n, kk, ys, ex, hn, hk1, hkn, h255, hnc, hxx, rfl, rfl, rfl⟩ ih
    have hxH := Lib.hid (And.intro hn hxx)
    by_cases hone : kk = 1
    · subst hone
      have hlast : nat_ ys (mxAt ys n) = x := by rw [← hxx, ← hn]; exact (srt_last (by omega)).symm
      have ha := mxAt_lt ys n (by omega)
      have na := nth_ints (xs := ys) (ex := ex) (i := mxAt ys n) (by omega)
      rw [hlast] at na
      have hin := Lib.hid fun (post : Post) (k : List Item) hk => rn_inner (post := post) (k := k) bk n c7 ((1 : Nat) : Int) ys ex X hn (by omega) h255 hk
      obtain ⟨at_, hat⟩ : ∃ z, z = mxAt ys n := ⟨_, rfl⟩
      rw [← hat] at na ha hin
      clear hat hlast hxx hn ih
      repeat' (first | (refine SL.TO.is ?_; first | (refine SL.TO.door (o := ⟨_, .load _ _, _, _, _, _⟩) ?_; first | refine SL.W.loadN na ?_) | refine SL.TO.nil ?_ | (refine SL.TO.nilD ?_; simp only [SL.setB]) | refine SL.W.pass ?_ | refine SL.W.pass0 ?_ | (refine SL.W.pure ?_; first | refine SL.W.pv ?_ | refine SL.W.pv0 ?_ | refine SL.W.lenMp ?_ | (refine SL.W.guardP (fun h => ?_) (fun h => ?_) <;> (fail_if_success (have : h = trivial := rfl)) <;> (fail_if_success (have : h = not_false := rfl)) <;> first | contradiction | (exfalso; omega) | (exfalso; revert h; simp; done) | skip) | (refine SL.W.guardB (fun h => ?_) (fun h => ?_) <;> (fail_if_success (have : h = (rfl : true = true) := rfl)) <;> (fail_if_success (have : h = (rfl : false = false) := rfl)))) | (refine SL.W.loud ?_; first | refine SL.W.load ?_ | refine SL.W.loadA ?_ | refine SL.W.store ?_ | refine SL.W.storeA ?_ | (refine SL.W.box ?_; intro b) | (refine SL.W.alloc ?_; intro b) | (refine SL.W.buildSlice ?_; intro b) | (refine SL.W.append ?_; intro a cap) | refine SL.W.bytesToStr ?_ | refine SL.W.pvn (SL.PV.toIntC (by rfl) (by first | exact SL.wrap_i64 (by omega) | exact SL.wrap_u8 (by omega) | exact SL.wrap_u32 (by omega) | exact SL.wrap_u64 (by omega) | rfl)) ?_ | (refine SL.W.makeSlice ?_; intro b) | refine SL.W.lookupOk ?_ | refine SL.W.lookup ?_ | (refine SL.W.makeMap ?_; intro b) | refine SL.W.mapUpdate ?_ | (refine SL.W.mapEntry ?_; intro stamp) | refine SL.W.entryStore ?_ | (refine SL.W.range ?_; intro it) | refine SL.W.delete ?_ | (refine SL.W.guardP (fun h => ?_) (fun h => ?_) <;> (fail_if_success (have : h = trivial := rfl)) <;> (fail_if_success (have : h = not_false := rfl)) <;> first | contradiction | (exfalso; omega) | (exfalso; revert h; simp; done) | skip) | (refine SL.W.guardB (fun h => ?_) (fun h => ?_) <;> (fail_if_success (have : h = (rfl : true = true) := rfl)) <;> (fail_if_success (have : h = (rfl : false = false) := rfl))))) | (refine SL.TK.lp ?_; first | refine SL.W.loop (hin.out _ _ ?_)) | (refine SL.TK.is ?_; first | refine SL.TK.seq ?_ | refine SL.TK.region ?_ | refine SL.TK.regionD SL.mixed (by simp only [SL.falses] <;> rfl) ?_ | refine SL.TK.block ?_ | refine SL.TK.inBlock ?_ | refine SL.TK.skip ?_ | refine SL.TK.scope ?_ | refine SL.TK.inScope ?_ | refine SL.TK.label ?_ | refine SL.W.exit ?_ | refine SL.W.condT ?_ | refine SL.W.condF ?_ | (refine SL.W.condP (fun h => ?_) (fun h => ?_) <;> (fail_if_success (have : h = trivial := rfl)) <;> (fail_if_success (have : h = not_false := rfl)) <;> first | contradiction | (exfalso; omega) | (exfalso; revert h; simp; done) | skip) | refine SL.W.condB (fun h => ?_) (fun h => ?_)) | (refine SL.TD.is ?_; first | refine SL.W.dloadN na ?_ | (refine SL.W.dfin ?_; simp only [List.append_nil, List.cons_append, List.nil_append]) | refine SL.W.dpass ?_ | refine SL.W.dpure ?_ | refine SL.W.dload ?_ | refine SL.W.dloadA ?_ | refine SL.W.dfrz ?_ | (refine SL.W.dthaw ?_; simp only [List.append_nil, List.cons_append, List.nil_append]) | (refine SL.W.dguardP (fun h => ?_) (fun h => ?_) <;> (fail_if_success (have : h = trivial := rfl)) <;> (fail_if_success (have : h = not_false := rfl)) <;> first | contradiction | (exfalso; omega) | (exfalso; revert h; simp; done) | skip) | (refine SL.W.dguardB (fun h => ?_) (fun h => ?_) <;> (fail_if_success (have : h = (rfl : true = true) := rfl)) <;> (fail_if_success (have : h = (rfl : false = false) := rfl))) | refine SL.W.done ?_ | refine SL.W.dtwo ?_ ?_ | refine SL.W.dthree ?_ ?_ ?_))
      all_goals exact SL.TK.retD Try.func15 (SL.Res.two rfl (by rfl) (by rfl)) ⟨hRH.out.symm, rfl⟩ (EntD.cons (by first | ((repeat (first | exact SL.Pick.head | apply SL.Pick.tail)); done) | fail) EntD.nil)
    · have ha := mxAt_lt ys n (by omega)
      have hlen := rmv_len (xs := ys) (j := mxAt ys n) (by omega)
      have hput := put_rmv (ex := ex) hn ha
      have hcut := cut_drop (ex := ex) hn ha
      have hless : nat_ (srt (rmv ys (mxAt ys n))) (n - kk) = x := by
        have h3 := srt_less (xs := ys) (i := n - kk) (by omega)
        rw [hn] at h3
        rw [← h3]; exact hxx
      have hin := Lib.hid fun (post : Post) (k : List Item) hk => rn_inner (post := post) (k := k) bk n c7 (kk : Int) ys ex X hn (by omega) h255 hk
      obtain ⟨at_, hat⟩ : ∃ z, z = mxAt ys n := ⟨_, rfl⟩
      rw [← hat] at ha hin hput hcut hless hlen
      obtain ⟨zs, hzs⟩ : ∃ z, z = rmv ys at_ := ⟨_, rfl⟩
      rw [← hzs] at hput hless hlen
      have h1c := one_ints (ys.drop (at_ + 1))
      obtain ⟨dr, hdr⟩ : ∃ z, z = (ys.drop (at_ + 1)).map iv := ⟨_, rfl⟩
      rw [← hdr] at hput hcut h1c
      obtain ⟨ex2, hex2⟩ : ∃ z, z = (ys.map iv ++ ex).drop (n - 1) := ⟨_, rfl⟩
      rw [← hex2] at hput
      have hF := Lib.hid (And.intro hless hlen)
      have hsum : at_ + (n - (at_ + 1)) = n - 1 := by omega
      clear hat hzs hdr hex2 hless hlen hxx hxH
      repeat' (first | (refine SL.TO.is ?_; first | (refine SL.TO.door (o := ⟨_, .call ⟨.builtin .append, _, _⟩, _, _, _, _⟩) ?_; first | refine SL.TO.appendFit (by rfl) (by rfl) (by rfl) (by rfl) (by first | ((repeat (first | exact SL.Pick.head | apply SL.Pick.tail)); done) | fail) (SL.Src.sl (by first | ((repeat (first | exact SL.Pick.head | apply SL.Pick.tail)); done) | fail) (by omega) (by omega) hcut) h1c (by omega) hput hsum ?_) | refine SL.TO.nil ?_ | (refine SL.TO.nilD ?_; simp only [SL.setB]) | refine SL.W.pass ?_ | refine SL.W.pass0 ?_ | (refine SL.W.pure ?_; first | refine SL.W.pv ?_ | refine SL.W.pv0 ?_ | refine SL.W.lenMp ?_ | (refine SL.W.guardP (fun h => ?_) (fun h => ?_) <;> (fail_if_success (have : h = trivial := rfl)) <;> (fail_if_success (have : h = not_false := rfl)) <;> first | contradiction | (exfalso; omega) | (exfalso; revert h; simp; done) | skip) | (refine SL.W.guardB (fun h => ?_) (fun h => ?_) <;> (fail_if_success (have : h = (rfl : true = true) := rfl)) <;> (fail_if_success (have : h = (rfl : false = false) := rfl)))) | (refine SL.W.loud ?_; first | refine SL.W.load ?_ | refine SL.W.loadA ?_ | refine SL.W.store ?_ | refine SL.W.storeA ?_ | (refine SL.W.box ?_; intro b) | (refine SL.W.alloc ?_; intro b) | (refine SL.W.buildSlice ?_; intro b) | (refine SL.W.append ?_; intro a cap) | refine SL.W.bytesToStr ?_ | refine SL.W.pvn (SL.PV.toIntC (by rfl) (by first | exact SL.wrap_i64 (by omega) | exact SL.wrap_u8 (by omega) | exact SL.wrap_u32 (by omega) | exact SL.wrap_u64 (by omega) | rfl)) ?_ | (refine SL.W.makeSlice ?_; intro b) | refine SL.W.lookupOk ?_ | refine SL.W.lookup ?_ | (refine SL.W.makeMap ?_; intro b) | refine SL.W.mapUpdate ?_ | (refine SL.W.mapEntry ?_; intro stamp) | refine SL.W.entryStore ?_ | (refine SL.W.range ?_; intro it) | refine SL.W.delete ?_ | (refine SL.W.guardP (fun h => ?_) (fun h => ?_) <;> (fail_if_success (have : h = trivial := rfl)) <;> (fail_if_success (have : h = not_false := rfl)) <;> first | contradiction | (exfalso; omega) | (exfalso; revert h; simp; done) | skip) | (refine SL.W.guardB (fun h => ?_) (fun h => ?_) <;> (fail_if_success (have : h = (rfl : true = true) := rfl)) <;> (fail_if_success (have : h = (rfl : false = false) := rfl))))) | (refine SL.TK.lp ?_; first | refine SL.W.loop (hin.out _ _ ?_)) | (refine SL.TK.is ?_; first | refine SL.TK.seq ?_ | refine SL.TK.region ?_ | refine SL.TK.regionD SL.mixed (by simp only [SL.falses] <;> rfl) ?_ | refine SL.TK.block ?_ | refine SL.TK.inBlock ?_ | refine SL.TK.skip ?_ | refine SL.TK.scope ?_ | refine SL.TK.inScope ?_ | refine SL.TK.label ?_ | refine SL.W.exit ?_ | refine SL.W.condT ?_ | refine SL.W.condF ?_ | (refine SL.W.condP (fun h => ?_) (fun h => ?_) <;> (fail_if_success (have : h = trivial := rfl)) <;> (fail_if_success (have : h = not_false := rfl)) <;> first | contradiction | (exfalso; omega) | (exfalso; revert h; simp; done) | skip) | refine SL.W.condB (fun h => ?_) (fun h => ?_)) | (refine SL.TD.is ?_; first | (refine SL.W.dfin ?_; simp only [List.append_nil, List.cons_append, List.nil_append]) | refine SL.W.dpass ?_ | refine SL.W.dpure ?_ | refine SL.W.dload ?_ | refine SL.W.dloadA ?_ | refine SL.W.dfrz ?_ | (refine SL.W.dthaw ?_; simp only [List.append_nil, List.cons_append, List.nil_append]) | (refine SL.W.dguardP (fun h => ?_) (fun h => ?_) <;> (fail_if_success (have : h = trivial := rfl)) <;> (fail_if_success (have : h = not_false := rfl)) <;> first | contradiction | (exfalso; omega) | (exfalso; revert h; simp; done) | skip) | (refine SL.W.dguardB (fun h => ?_) (fun h => ?_) <;> (fail_if_success (have : h = (rfl : true = true) := rfl)) <;> (fail_if_success (have : h = (rfl : false = false) := rfl))) | refine SL.W.done ?_ | refine SL.W.dtwo ?_ ?_ | refine SL.W.dthree ?_ ?_ ?_))
      all_goals
        refine SL.TK.againD ih ⟨n - 1, kk - 1, zs, ex2, by rw [hF.out.2, hn], by omega, by omega, by omega, by omega, by rw [show n - 1 - (kk - 1) = n - kk from by omega]; exact hF.out.1, rfl, rfl, rfl⟩ (by first | ((repeat (first | exact SL.Sub.nil | refine SL.Sub.cons (by rfl) (by first | rfl | exact SL.int_eq (by omega)) ?_)); done) | fail) (EntD.cons (by first | ((repeat (first | exact SL.Pick.head | apply SL.Pick.tail)); done) | fail) (EntD.cons (by first | ((repeat (first | exact SL.Pick.head | apply SL.Pick.tail)); done) | fail) EntD.nil)) (by omega)
  · rw [if_neg hin, decide_eq_false hin] at hRH
    have hin2 : k < 1 ∨ len < k := by omega
    refine SL.Spec.of_TK Go.Proofs.Try.func15 rfl rfl SL.call15 rfl ?_
    repeat' (first | (refine SL.TO.is ?_; first | refine SL.TO.nil ?_ | (refine SL.TO.nilD ?_; simp only [SL.setB]) | refine SL.W.pass ?_ | refine SL.W.pass0 ?_ | (refine SL.W.pure ?_; first | refine SL.W.pv ?_ | refine SL.W.pv0 ?_ | refine SL.W.lenMp ?_ | (refine SL.W.guardP (fun h => ?_) (fun h => ?_) <;> (fail_if_success (have : h = trivial := rfl)) <;> (fail_if_success (have : h = not_false := rfl)) <;> first | contradiction | (exfalso; omega) | (exfalso; revert h; simp; done) | skip) | (refine SL.W.guardB (fun h => ?_) (fun h => ?_) <;> (fail_if_success (have : h = (rfl : true = true) := rfl)) <;> (fail_if_success (have : h = (rfl : false = false) := rfl)))) | (refine SL.W.loud ?_; first | refine SL.W.load ?_ | refine SL.W.loadA ?_ | refine SL.W.store ?_ | refine SL.W.storeA ?_ | (refine SL.W.box ?_; intro b) | (refine SL.W.alloc ?_; intro b) | (refine SL.W.buildSlice ?_; intro b) | (refine SL.W.append ?_; intro a cap) | refine SL.W.bytesToStr ?_ | refine SL.W.pvn (SL.PV.toIntC (by rfl) (by first | exact SL.wrap_i64 (by omega) | exact SL.wrap_u8 (by omega) | exact SL.wrap_u32 (by omega) | exact SL.wrap_u64 (by omega) | rfl)) ?_ | (refine SL.W.makeSlice ?_; intro b) | refine SL.W.lookupOk ?_ | refine SL.W.lookup ?_ | (refine SL.W.makeMap ?_; intro b) | refine SL.W.mapUpdate ?_ | (refine SL.W.mapEntry ?_; intro stamp) | refine SL.W.entryStore ?_ | (refine SL.W.range ?_; intro it) | refine SL.W.delete ?_ | (refine SL.W.guardP (fun h => ?_) (fun h => ?_) <;> (fail_if_success (have : h = trivial := rfl)) <;> (fail_if_success (have : h = not_false := rfl)) <;> first | contradiction | (exfalso; omega) | (exfalso; revert h; simp; done) | skip) | (refine SL.W.guardB (fun h => ?_) (fun h => ?_) <;> (fail_if_success (have : h = (rfl : true = true) := rfl)) <;> (fail_if_success (have : h = (rfl : false = false) := rfl))))) | (refine SL.TK.is ?_; first | refine SL.TK.seq ?_ | refine SL.TK.region ?_ | refine SL.TK.regionD SL.mixed (by simp only [SL.falses] <;> rfl) ?_ | refine SL.TK.block ?_ | refine SL.TK.inBlock ?_ | refine SL.TK.skip ?_ | refine SL.TK.scope ?_ | refine SL.TK.inScope ?_ | refine SL.TK.label ?_ | refine SL.W.exit ?_ | refine SL.W.condT ?_ | refine SL.W.condF ?_ | (refine SL.W.condP (fun h => ?_) (fun h => ?_) <;> (fail_if_success (have : h = trivial := rfl)) <;> (fail_if_success (have : h = not_false := rfl)) <;> first | contradiction | (exfalso; omega) | (exfalso; revert h; simp; done) | skip) | refine SL.W.condB (fun h => ?_) (fun h => ?_)) | (refine SL.TD.is ?_; first | (refine SL.W.dfin ?_; simp only [List.append_nil, List.cons_append, List.nil_append]) | refine SL.W.dpass ?_ | refine SL.W.dpure ?_ | refine SL.W.dload ?_ | refine SL.W.dloadA ?_ | refine SL.W.dfrz ?_ | (refine SL.W.dthaw ?_; simp only [List.append_nil, List.cons_append, List.nil_append]) | (refine SL.W.dguardP (fun h => ?_) (fun h => ?_) <;> (fail_if_success (have : h = trivial := rfl)) <;> (fail_if_success (have : h = not_false := rfl)) <;> first | contradiction | (exfalso; omega) | (exfalso; revert h; simp; done) | skip) | (refine SL.W.dguardB (fun h => ?_) (fun h => ?_) <;> (fail_if_success (have : h = (rfl : true = true) := rfl)) <;> (fail_if_success (have : h = (rfl : false = false) := rfl))) | refine SL.W.done ?_ | refine SL.W.dtwo ?_ ?_ | refine SL.W.dthree ?_ ?_ ?_))
    all_goals exact SL.TK.retD Try.func15 (SL.Res.two rfl (by rfl) (by rfl)) ⟨hRH.out.symm, rfl⟩ (EntD.cons (by first | ((repeat (first | exact SL.Pick.head | apply SL.Pick.tail)); done) | fail) EntD.nil)
end SL
