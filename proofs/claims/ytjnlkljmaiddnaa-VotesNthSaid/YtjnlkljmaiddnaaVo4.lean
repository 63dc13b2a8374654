/-
  The given statement 'VotesPlace': where the k-th greatest stands.
  Conditions: none beyond those of the given statement.
-/
import Derived.Test.YtjnlkljmaiddnaaVo3
import Derived.Test.YtjnlkljmaiddnaaRows
set_option linter.unusedVariables false
set_option linter.unusedSimpArgs false
set_option maxRecDepth 10000
namespace SL
open Go Go.Proofs Go.RowKit Go.ChangeShapes Go.WideShapes Go.ChangeAt Go.WideElems

section
variable {H : Type} {enc : TypeId × Value → H} {P : Program}
/-- a slice of integers that came in -/
theorem ints_in {t e : TypeId} {k : IntKind} {W : World} {base : Nat} {v : Value} {d : DataW H} {ps : List MemPlace} (ht : P.underlying t = some (.slice e)) (he : P.underlying e = some (.int k)) (hc : P.cellsOf e = 1)
    (hval : Value.okWide P W .any base t v) (h : DataW.Trod enc P W 0 (fun _ => true) true t v d ps) : ∃ (a : Option Addr) (cap : Nat) (zs : List Int), v = .slice a zs.length cap ∧ zs.length ≤ cap ∧ cap ≤ maxLen ∧ (a = none → zs = []) ∧
      (∀ q, a = some q → ∀ j, j < zs.length → W.cell? (q.add j) = some (.int k (zs.getD j 0))) ∧ (∀ z ∈ zs, (Lit.int k z).wf = true) := by
  obtain ⟨a1, len1, cap1, rfl⟩ := okWide_slice ht hval
  obtain ⟨n, hn⟩ := h
  rcases open_ints ht he hc hn with ⟨h1, _⟩ | ⟨a, len, cap, zs, h1, _, h3, h4, h5, h6, h7, h8⟩
  · simp [Value.cells] at h1
    obtain ⟨rfl, rfl, rfl⟩ := h1
    exact ⟨none, 0, [], rfl, Nat.le_refl _, Nat.zero_le _, fun _ => rfl, (fun q hq => by cases hq), (fun z hz => by simp at hz)⟩
  · simp [Value.cells] at h1
    obtain ⟨rfl, rfl, rfl⟩ := h1
    have h5' : zs.length = cap1 := by simpa using h5
    have hl : (zs.take len1).length = len1 := by simp; omega
    refine ⟨some a, cap1, zs.take len1, by rw [hl], by rw [hl]; exact h3, h4, fun hq => (by cases hq), ?_, fun z hz => h8 z (List.mem_of_mem_take hz)⟩
    rintro q hq j hj
    cases hq
    rw [hl] at hj
    rw [h7 j (by omega)]
    simp [List.getD_eq_getElem?_getD, List.getElem?_take_of_lt hj]
end
theorem wf_i64 {z : Int} (h : (Lit.int .i64 z).wf = true) : -9223372036854775808 ≤ z ∧ z ≤ 9223372036854775807 := by
  simp [Lit.wf, IntKind.min, IntKind.max, IntKind.signed, IntKind.bits] at h
  omega
/-- the beginning of a row that came in may be read -/
theorem RdRow.came {W : World} {p : Option Addr} {zs : List Int} (h0 : p = none → zs = []) (h : ∀ q, p = some q → ∀ j, j < zs.length → W.cell? (q.add j) = some (.int .u64 (zs.getD j 0))) (n : Nat) : RdRow (SL.orig W) p (zs.take n) := by
  refine ⟨fun e => by rw [h0 e]; simp, fun q hq i hi => RdA.orig fun j v hj => ?_⟩
  cases j with
  | succ j => simp at hj
  | zero =>
    obtain rfl : iv (nat_ (zs.take n) i) = v := by simpa using hj
    have hi2 : i < n ∧ i < zs.length := by simp at hi; omega
    have := h q hq i hi2.2
    rw [Nat.mul_one, show (q.add i).add 0 = q.add i from by simp [Addr.add], this]
    simp [iv, nat_, List.getD_eq_getElem?_getD, List.getElem?_take_of_lt hi2.1]

/-! the plain law -/
theorem count_hi {xs : List Int} {j : Nat} (hj : j < xs.length) : xs.length - j ≤ xs.countP fun z => decide (nat_ (srt xs) j ≤ z) := by
  rw [← (srt_perm xs).countP_eq]
  have hlen := srt_length xs
  have hs := List.pairwise_iff_getElem.1 (srt_sorted xs)
  have hsplit : srt xs = (srt xs).take j ++ (srt xs).drop j := (List.take_append_drop _ _).symm
  have hall : ((srt xs).drop j).countP (fun z => decide (nat_ (srt xs) j ≤ z)) = ((srt xs).drop j).length := by
    rw [List.countP_eq_length]
    intro z hz
    obtain ⟨i, hi, rfl⟩ := List.getElem_of_mem hz
    rw [List.length_drop] at hi
    rw [List.getElem_drop, decide_eq_true_eq, ← nat_eq (by omega)]
    by_cases e : i = 0
    · subst e; exact Int.le_refl _
    · exact hs j (j + i) (by omega) (by omega) (by omega)
  have : (srt xs).countP (fun z => decide (nat_ (srt xs) j ≤ z)) = ((srt xs).take j).countP (fun z => decide (nat_ (srt xs) j ≤ z)) + ((srt xs).drop j).countP (fun z => decide (nat_ (srt xs) j ≤ z)) := by
    rw [← List.countP_append, List.take_append_drop]
  rw [this, hall, List.length_drop]
  omega
theorem count_lo {xs : List Int} {j : Nat} (hj : j < xs.length) : j + 1 ≤ xs.countP fun z => decide (z ≤ nat_ (srt xs) j) := by
  rw [← (srt_perm xs).countP_eq]
  have hlen := srt_length xs
  have hs := List.pairwise_iff_getElem.1 (srt_sorted xs)
  have hall : ((srt xs).take (j + 1)).countP (fun z => decide (z ≤ nat_ (srt xs) j)) = ((srt xs).take (j + 1)).length := by
    rw [List.countP_eq_length]
    intro z hz
    obtain ⟨i, hi, rfl⟩ := List.getElem_of_mem hz
    rw [List.length_take] at hi
    rw [List.getElem_take, decide_eq_true_eq, ← nat_eq (by omega)]
    by_cases e : i = j
    · subst e; exact Int.le_refl _
    · exact hs i j (by omega) (by omega) (by omega)
  have : (srt xs).countP (fun z => decide (z ≤ nat_ (srt xs) j)) = ((srt xs).take (j + 1)).countP (fun z => decide (z ≤ nat_ (srt xs) j)) + ((srt xs).drop (j + 1)).countP (fun z => decide (z ≤ nat_ (srt xs) j)) := by
    rw [← List.countP_append, List.take_append_drop]
  rw [this, hall, List.length_take]
  omega
theorem srt_in {xs : List Int} {j : Nat} (hj : j < xs.length) : nat_ (srt xs) j ∈ xs := by
  rw [← nat_eq (by rw [srt_length]; exact hj)]
  exact mem_srt.1 (List.getElem_mem _)
theorem srt_le {xs : List Int} {i j : Nat} (hij : i < j) (hj : j < xs.length) : nat_ (srt xs) i ≤ nat_ (srt xs) j := by
  have hs := List.pairwise_iff_getElem.1 (srt_sorted xs) i j (by rw [srt_length]; omega) (by rw [srt_length]; exact hj) hij
  rwa [nat_eq, nat_eq] at hs
def cHi (x : Int) (xs : List Int) : Nat := xs.countP fun z => decide (x ≤ z)
def cLo (x : Int) (xs : List Int) : Nat := xs.countP fun z => decide (z ≤ x)
def thr (x : Int) (xs : List Int) : Bool := xs.any fun z => decide (z = x)
theorem cHi_le (x : Int) (xs : List Int) : cHi x xs ≤ xs.length := List.countP_le_length
theorem cLo_le (x : Int) (xs : List Int) : cLo x xs ≤ xs.length := List.countP_le_length
theorem take1 {xs : List Int} {i : Nat} (h : i < xs.length) : xs.take (i + 1) = xs.take i ++ [nat_ xs i] := by rw [List.take_add_one, List.getElem?_eq_getElem h, nat_eq h]; rfl
attribute [local irreducible] SL.TK SL.TO SL.TD SL.PV SL.Pick SL.Frm SL.Ent SL.Sub SL.EvAll SL.seps SL.sep SL.Cut SL.PutAt SL.blk SL.EvP SL.Fill SL.Src SL.EntD SL.own SL.ex SL.fact SL.orig

def vpI (W : World) (p : Option Addr) (n cap : Nat) (k x : Int) (xs : List Int) (ρ : Env) (L : List HProp) (m : Nat) : Prop := ∃ i : Nat, i ≤ n ∧
  ρ = [(0, .slice p n cap), (1, .int .i64 k), (5, .int .u64 x), (7, .int .i64 (cHi x (xs.take i))), (8, .int .i64 (cLo x (xs.take i))), (9, .bool (thr x (xs.take i))), (10, .int .i64 i)] ∧ L = [SL.orig W] ∧ m = n - i
set_option maxHeartbeats 1000000 in
theorem place_loop {post : Post} {kk : List Item} (W : World) (p : Option Addr) (n cap : Nat) (k x : Int) (xs : List Int) (hn : xs.length = n) (h60 : n ≤ 60) (hX : RdRow (SL.orig W) p xs)
    (hk : TK Try.prog 4 Try.f4.ntmps post kk [(0, .slice p n cap), (1, .int .i64 k), (5, .int .u64 x), (7, .int .i64 (cHi x xs)), (8, .int .i64 (cLo x xs)), (9, .bool (thr x xs))] [SL.orig W]) :
    TK Try.prog 4 Try.f4.ntmps post (.code (loopAt Try.f4 0) :: kk) [(0, .slice p n cap), (1, .int .i64 k), (5, .int .u64 x), (7, .int .i64 0), (8, .int .i64 0), (9, .bool false), (10, .int .i64 0)] [SL.orig W] := by
  have hkH := Lib.hid hk
  clear hk
  refine SL.TK.block ?_
  refine SL.TK.loopD (vpI W p n cap k x xs) ?_ ⟨0, Nat.zero_le _, rfl, rfl, rfl⟩ (by first | ((repeat (first | exact SL.Sub.nil | refine SL.Sub.cons (by rfl) (by first | rfl | exact SL.int_eq (by omega)) ?_)); done) | fail) EntD.refl
  rintro ρ L m ⟨i, hi, rfl, rfl, rfl⟩ ih
  by_cases hlt : i < n
  · obtain ⟨q, rfl⟩ : ∃ q, p = some q := by
      cases p with
      | none => have := hX.nil rfl; subst this; simp at hn; omega
      | some q => exact ⟨q, rfl⟩
    have hr := hX.at_ q rfl i (by omega)
    have ht := take1 (xs := xs) (i := i) (by omega)
    obtain ⟨z, hz⟩ : ∃ z, z = nat_ xs i := ⟨_, rfl⟩
    rw [← hz] at hr ht
    have e1 : cHi x (xs.take (i + 1)) = cHi x (xs.take i) + if x ≤ z then 1 else 0 := by rw [ht, cHi, List.countP_append]; simp [cHi, List.countP_cons]
    have e2 : cLo x (xs.take (i + 1)) = cLo x (xs.take i) + if z ≤ x then 1 else 0 := by rw [ht, cLo, List.countP_append]; simp [cLo, List.countP_cons]
    have e3 : thr x (xs.take (i + 1)) = (thr x (xs.take i) || decide (z = x)) := by rw [ht, thr, List.any_append]; simp [thr]
    have b1 := cHi_le x (xs.take i)
    have b2 := cLo_le x (xs.take i)
    have b3 : (xs.take i).length ≤ 60 := by rw [List.length_take]; omega
    obtain ⟨A, hA⟩ : ∃ A, A = cHi x (xs.take i) := ⟨_, rfl⟩
    obtain ⟨B, hB⟩ : ∃ B, B = cLo x (xs.take i) := ⟨_, rfl⟩
    obtain ⟨T, hT⟩ : ∃ T, T = thr x (xs.take i) := ⟨_, rfl⟩
    have hA60 : A ≤ 60 := by omega
    have hB60 : B ≤ 60 := by omega
    rw [← hA] at e1 ⊢
    rw [← hB] at e2 ⊢
    rw [← hT] at e3 ⊢
    have eH := Lib.hid (And.intro e1 (And.intro e2 e3))
    clear e1 e2 e3 b1 b2 b3 hA hB hT hz ht hX hkH
    repeat' (first | (refine SL.TO.is ?_; first | (refine SL.TO.door (o := ⟨_, .load _ _, _, _, _, _⟩) ?_; first | refine SL.W.loadX hr rfl ?_) | refine SL.TO.nil ?_ | (refine SL.TO.nilD ?_; simp only [SL.setB]) | refine SL.W.pass ?_ | refine SL.W.pass0 ?_ | (refine SL.W.pure ?_; first | refine SL.W.pv ?_ | refine SL.W.pv0 ?_ | refine SL.W.lenMp ?_ | (refine SL.W.guardP (fun h => ?_) (fun h => ?_) <;> (fail_if_success (have : h = trivial := rfl)) <;> (fail_if_success (have : h = not_false := rfl)) <;> first | contradiction | (exfalso; omega) | (exfalso; revert h; simp; done) | skip) | (refine SL.W.guardB (fun h => ?_) (fun h => ?_) <;> (fail_if_success (have : h = (rfl : true = true) := rfl)) <;> (fail_if_success (have : h = (rfl : false = false) := rfl)))) | (refine SL.W.loud ?_; first | refine SL.W.load ?_ | refine SL.W.loadA ?_ | refine SL.W.store ?_ | refine SL.W.storeA ?_ | (refine SL.W.box ?_; intro b) | (refine SL.W.alloc ?_; intro b) | (refine SL.W.buildSlice ?_; intro b) | (refine SL.W.append ?_; intro a cap) | refine SL.W.bytesToStr ?_ | refine SL.W.pvn (SL.PV.toIntC (by rfl) (by first | exact SL.wrap_i64 (by omega) | exact SL.wrap_u8 (by omega) | exact SL.wrap_u32 (by omega) | exact SL.wrap_u64 (by omega) | rfl)) ?_ | (refine SL.W.makeSlice ?_; intro b) | refine SL.W.lookupOk ?_ | refine SL.W.lookup ?_ | (refine SL.W.makeMap ?_; intro b) | refine SL.W.mapUpdate ?_ | (refine SL.W.mapEntry ?_; intro stamp) | refine SL.W.entryStore ?_ | (refine SL.W.range ?_; intro it) | refine SL.W.delete ?_ | (refine SL.W.guardP (fun h => ?_) (fun h => ?_) <;> (fail_if_success (have : h = trivial := rfl)) <;> (fail_if_success (have : h = not_false := rfl)) <;> first | contradiction | (exfalso; omega) | (exfalso; revert h; simp; done) | skip) | (refine SL.W.guardB (fun h => ?_) (fun h => ?_) <;> (fail_if_success (have : h = (rfl : true = true) := rfl)) <;> (fail_if_success (have : h = (rfl : false = false) := rfl))))) | (refine SL.TK.is ?_; first | refine SL.TK.seq ?_ | refine SL.TK.region ?_ | refine SL.TK.regionD SL.mixed (by simp only [SL.falses] <;> rfl) ?_ | refine SL.TK.block ?_ | refine SL.TK.inBlock ?_ | refine SL.TK.skip ?_ | refine SL.TK.scope ?_ | refine SL.TK.inScope ?_ | refine SL.TK.label ?_ | refine SL.W.exit ?_ | refine SL.W.condT ?_ | refine SL.W.condF ?_ | (refine SL.W.condP (fun h => ?_) (fun h => ?_) <;> (fail_if_success (have : h = trivial := rfl)) <;> (fail_if_success (have : h = not_false := rfl)) <;> first | contradiction | (exfalso; omega) | (exfalso; revert h; simp; done) | skip) | refine SL.W.condB (fun h => ?_) (fun h => ?_)) | (refine SL.TD.is ?_; first | (refine SL.W.dfin ?_; simp only [List.append_nil, List.cons_append, List.nil_append]) | refine SL.W.dpass ?_ | refine SL.W.dpure ?_ | refine SL.W.dload ?_ | refine SL.W.dloadA ?_ | refine SL.W.dfrz ?_ | (refine SL.W.dthaw ?_; simp only [List.append_nil, List.cons_append, List.nil_append]) | (refine SL.W.dguardP (fun h => ?_) (fun h => ?_) <;> (fail_if_success (have : h = trivial := rfl)) <;> (fail_if_success (have : h = not_false := rfl)) <;> first | contradiction | (exfalso; omega) | (exfalso; revert h; simp; done) | skip) | (refine SL.W.dguardB (fun h => ?_) (fun h => ?_) <;> (fail_if_success (have : h = (rfl : true = true) := rfl)) <;> (fail_if_success (have : h = (rfl : false = false) := rfl))) | refine SL.W.done ?_ | refine SL.W.dtwo ?_ ?_ | refine SL.W.dthree ?_ ?_ ?_))
    all_goals
      refine SL.TK.againD ih ⟨i + 1, by omega, rfl, rfl, rfl⟩ (SL.Sub.cons (by rfl) rfl (SL.Sub.cons (by rfl) rfl (SL.Sub.cons (by rfl) rfl (SL.Sub.cons (by rfl) (int_eq (by rw [eH.out.1]; split <;> omega)) (SL.Sub.cons (by rfl) (int_eq (by rw [eH.out.2.1]; split <;> omega)) (SL.Sub.cons (by rfl) (by rw [eH.out.2.2]; simp_all) (SL.Sub.cons (by rfl) (int_eq (by omega)) SL.Sub.nil))))))) EntD.refl (by omega)
  · have hil : i = n := by omega
    subst hil
    rw [List.take_of_length_le (by omega)]
    obtain ⟨A, hA⟩ : ∃ A, A = cHi x xs := ⟨_, rfl⟩
    obtain ⟨B, hB⟩ : ∃ B, B = cLo x xs := ⟨_, rfl⟩
    obtain ⟨T, hT⟩ : ∃ T, T = thr x xs := ⟨_, rfl⟩
    rw [← hA, ← hB, ← hT] at hkH ⊢
    clear ih hA hB hT
    repeat' (first | (refine SL.TO.is ?_; first | refine SL.TO.nil ?_ | (refine SL.TO.nilD ?_; simp only [SL.setB]) | refine SL.W.pass ?_ | refine SL.W.pass0 ?_ | (refine SL.W.pure ?_; first | refine SL.W.pv ?_ | refine SL.W.pv0 ?_ | refine SL.W.lenMp ?_ | (refine SL.W.guardP (fun h => ?_) (fun h => ?_) <;> (fail_if_success (have : h = trivial := rfl)) <;> (fail_if_success (have : h = not_false := rfl)) <;> first | contradiction | (exfalso; omega) | (exfalso; revert h; simp; done) | skip) | (refine SL.W.guardB (fun h => ?_) (fun h => ?_) <;> (fail_if_success (have : h = (rfl : true = true) := rfl)) <;> (fail_if_success (have : h = (rfl : false = false) := rfl)))) | (refine SL.W.loud ?_; first | refine SL.W.load ?_ | refine SL.W.loadA ?_ | refine SL.W.store ?_ | refine SL.W.storeA ?_ | (refine SL.W.box ?_; intro b) | (refine SL.W.alloc ?_; intro b) | (refine SL.W.buildSlice ?_; intro b) | (refine SL.W.append ?_; intro a cap) | refine SL.W.bytesToStr ?_ | refine SL.W.pvn (SL.PV.toIntC (by rfl) (by first | exact SL.wrap_i64 (by omega) | exact SL.wrap_u8 (by omega) | exact SL.wrap_u32 (by omega) | exact SL.wrap_u64 (by omega) | rfl)) ?_ | (refine SL.W.makeSlice ?_; intro b) | refine SL.W.lookupOk ?_ | refine SL.W.lookup ?_ | (refine SL.W.makeMap ?_; intro b) | refine SL.W.mapUpdate ?_ | (refine SL.W.mapEntry ?_; intro stamp) | refine SL.W.entryStore ?_ | (refine SL.W.range ?_; intro it) | refine SL.W.delete ?_ | (refine SL.W.guardP (fun h => ?_) (fun h => ?_) <;> (fail_if_success (have : h = trivial := rfl)) <;> (fail_if_success (have : h = not_false := rfl)) <;> first | contradiction | (exfalso; omega) | (exfalso; revert h; simp; done) | skip) | (refine SL.W.guardB (fun h => ?_) (fun h => ?_) <;> (fail_if_success (have : h = (rfl : true = true) := rfl)) <;> (fail_if_success (have : h = (rfl : false = false) := rfl))))) | (refine SL.TK.is ?_; first | (refine SL.TK.weakD (by first | ((repeat (first | exact SL.Sub.nil | refine SL.Sub.cons (by rfl) (by first | rfl | exact SL.int_eq (by omega)) ?_)); done) | fail) EntD.refl hkH.out) | refine SL.TK.seq ?_ | refine SL.TK.region ?_ | refine SL.TK.regionD SL.mixed (by simp only [SL.falses] <;> rfl) ?_ | refine SL.TK.block ?_ | refine SL.TK.inBlock ?_ | refine SL.TK.skip ?_ | refine SL.TK.scope ?_ | refine SL.TK.inScope ?_ | refine SL.TK.label ?_ | refine SL.W.exit ?_ | refine SL.W.condT ?_ | refine SL.W.condF ?_ | (refine SL.W.condP (fun h => ?_) (fun h => ?_) <;> (fail_if_success (have : h = trivial := rfl)) <;> (fail_if_success (have : h = not_false := rfl)) <;> first | contradiction | (exfalso; omega) | (exfalso; revert h; simp; done) | skip) | refine SL.W.condB (fun h => ?_) (fun h => ?_)) | (refine SL.TD.is ?_; first | (refine SL.W.dfin ?_; simp only [List.append_nil, List.cons_append, List.nil_append]) | refine SL.W.dpass ?_ | refine SL.W.dpure ?_ | refine SL.W.dload ?_ | refine SL.W.dloadA ?_ | refine SL.W.dfrz ?_ | (refine SL.W.dthaw ?_; simp only [List.append_nil, List.cons_append, List.nil_append]) | (refine SL.W.dguardP (fun h => ?_) (fun h => ?_) <;> (fail_if_success (have : h = trivial := rfl)) <;> (fail_if_success (have : h = not_false := rfl)) <;> first | contradiction | (exfalso; omega) | (exfalso; revert h; simp; done) | skip) | (refine SL.W.dguardB (fun h => ?_) (fun h => ?_) <;> (fail_if_success (have : h = (rfl : true = true) := rfl)) <;> (fail_if_success (have : h = (rfl : false = false) := rfl))) | refine SL.W.done ?_ | refine SL.W.dtwo ?_ ?_ | refine SL.W.dthree ?_ ?_ ?_))
set_option maxHeartbeats 2000000 in
theorem place_spec (W : World) (p : Option Addr) (len cap : Nat) (zs : List Int) (k : Int) (hlen : zs.length = len) (hcap : len ≤ cap) (hm : cap ≤ 9223372036854775807) (h0 : p = none → zs = []) (hk : -9223372036854775808 ≤ k ∧ k ≤ 9223372036854775807)
    (hcell : ∀ q, p = some q → ∀ j, j < zs.length → W.cell? (q.add j) = some (.int .u64 (zs.getD j 0))) :
    Spec Try.prog 4 [.slice p len cap, .int .i64 k] [SL.orig W] (fun r L => r = .bool true ∧ L = [SL.orig W]) := by
  obtain ⟨n, hn⟩ : ∃ n : Nat, min (len : Int) 60 = (n : Int) := ⟨min len 60, by omega⟩
  have hn60 : n ≤ 60 := by omega
  have hnl : n ≤ len := by omega
  have hX := RdRow.came h0 hcell n
  obtain ⟨xs, hxs⟩ : ∃ xs, xs = zs.take n := ⟨_, rfl⟩
  have hxl : xs.length = n := by rw [hxs, List.length_take]; omega
  rw [← hxs] at hX
  have hN (k' : Int) (hk' : -9223372036854775808 ≤ k' ∧ k' ≤ 9223372036854775807) := nth_spec n cap p (SL.orig W) xs hxl (by omega) hX k' hk'
  have hW := Lib.hid voWakes_spec
  clear hxs hcell h0 hlen
  by_cases hin : 1 ≤ k ∧ k ≤ n
  · obtain ⟨j, hj⟩ : ∃ j : Nat, (n : Int) - k = (j : Int) := ⟨(n - k).toNat, by omega⟩
    have hjl : j < xs.length := by omega
    obtain ⟨x, hx⟩ : ∃ x, x = nat_ (srt xs) j := ⟨_, rfl⟩
    have h1 : Hid (Spec Try.prog 14 [.slice p n cap, .int .i64 k] [SL.orig W] (fun r L => r = .tuple #[.int .u64 x, .bool true] ∧ L = [SL.orig W])) := Lib.hid <| by
      have := hN k hk
      rw [nthR, hxl, if_pos hin, decide_eq_true hin, show n - k.toNat = j from by omega, ← hx] at this
      exact this
    obtain ⟨y, more, h2, hy⟩ : ∃ (y : Int) (more : Bool), Spec Try.prog 14 [.slice p n cap, .int .i64 (k + 1)] [SL.orig W] (fun r L => r = .tuple #[.int .u64 y, .bool more] ∧ L = [SL.orig W]) ∧ (more = true → y ≤ x) := by
      have := hN (k + 1) (by omega)
      rw [nthR, hxl] at this
      refine ⟨_, _, this, fun hm => ?_⟩
      have hm' : 1 ≤ k + 1 ∧ k + 1 ≤ n := by simpa using hm
      rw [if_pos hm', show n - (k + 1).toNat = j - 1 from by omega, hx]
      exact srt_le (by omega) hjl
    have hH : Hid (k ≤ (cHi x xs : Int) ∧ (n : Int) - k + 1 ≤ (cLo x xs : Int) ∧ thr x xs = true) := Lib.hid <| by
      have c1 := count_hi hjl
      have c2 := count_lo hjl
      rw [← hx] at c1 c2
      refine ⟨?_, ?_, ?_⟩
      · show k ≤ ((xs.countP fun z => decide (x ≤ z) : Nat) : Int)
        omega
      · show (n : Int) - k + 1 ≤ ((xs.countP fun z => decide (z ≤ x) : Nat) : Int)
        omega
      · rw [thr, List.any_eq_true]
        exact ⟨x, by rw [hx]; exact srt_in hjl, by simp⟩
    have hL := Lib.hid fun (post : Post) (kk : List Item) hk' => place_loop (post := post) (kk := kk) W p n cap k x xs hxl hn60 hX hk'
    have h2H := Lib.hid h2
    clear h2 hX hN hx hjl
    obtain ⟨A, hA⟩ : ∃ A, A = cHi x xs := ⟨_, rfl⟩
    obtain ⟨B, hB⟩ : ∃ B, B = cLo x xs := ⟨_, rfl⟩
    obtain ⟨T, hT⟩ : ∃ T, T = thr x xs := ⟨_, rfl⟩
    rw [← hA, ← hB, ← hT] at hL hH
    obtain ⟨hH1, hH2, hH3⟩ := hH.out
    subst hH3
    clear hA hB hT hH
    obtain ⟨hin1, hin2⟩ := hin
    have e33 : Value.bool (decide (¬ true = decide (k ≤ (n : Int)))) = .bool false := by simp [hin2]
    refine SL.Spec.of_TK Go.Proofs.Try.func4 rfl rfl SL.call4 rfl ?_
    repeat' (first | refine SL.W.pvn (PV.minI (by rfl) (by rfl) hn) ?_ | (refine SL.TO.is ?_; first | (refine SL.TO.door (o := ⟨_, .call ⟨.value (.func 14), _, _⟩, _, _, _, _⟩) ?_; first | (refine SL.W.call (h1.out) ?_; rintro _ _ ⟨rfl, rfl⟩; try simp only [List.cons_append, List.nil_append]) | (refine SL.W.call (h2H.out) ?_; rintro _ _ ⟨rfl, rfl⟩; try simp only [List.cons_append, List.nil_append])) | (refine SL.TO.door (o := ⟨_, .call ⟨.value (.func 18), _, _⟩, _, _, _, _⟩) ?_; first | (refine SL.W.call (hW.out) ?_; rintro _ _ ⟨rfl, rfl⟩; try simp only [List.cons_append, List.nil_append])) | refine SL.TO.nil ?_ | (refine SL.TO.nilD ?_; simp only [SL.setB]) | refine SL.W.pass ?_ | refine SL.W.pass0 ?_ | (refine SL.W.pure ?_; first | refine SL.W.pv ?_ | refine SL.W.pv0 ?_ | refine SL.W.lenMp ?_ | (refine SL.W.guardP (fun h => ?_) (fun h => ?_) <;> (fail_if_success (have : h = trivial := rfl)) <;> (fail_if_success (have : h = not_false := rfl)) <;> first | contradiction | (exfalso; omega) | (exfalso; revert h; simp; done) | skip) | (refine SL.W.guardB (fun h => ?_) (fun h => ?_) <;> (fail_if_success (have : h = (rfl : true = true) := rfl)) <;> (fail_if_success (have : h = (rfl : false = false) := rfl)))) | (refine SL.W.loud ?_; first | refine SL.W.load ?_ | refine SL.W.loadA ?_ | refine SL.W.store ?_ | refine SL.W.storeA ?_ | (refine SL.W.box ?_; intro b) | (refine SL.W.alloc ?_; intro b) | (refine SL.W.buildSlice ?_; intro b) | (refine SL.W.append ?_; intro a cap) | refine SL.W.bytesToStr ?_ | refine SL.W.pvn (SL.PV.toIntC (by rfl) (by first | exact SL.wrap_i64 (by omega) | exact SL.wrap_u8 (by omega) | exact SL.wrap_u32 (by omega) | exact SL.wrap_u64 (by omega) | rfl)) ?_ | (refine SL.W.makeSlice ?_; intro b) | refine SL.W.lookupOk ?_ | refine SL.W.lookup ?_ | (refine SL.W.makeMap ?_; intro b) | refine SL.W.mapUpdate ?_ | (refine SL.W.mapEntry ?_; intro stamp) | refine SL.W.entryStore ?_ | (refine SL.W.range ?_; intro it) | refine SL.W.delete ?_ | (refine SL.W.guardP (fun h => ?_) (fun h => ?_) <;> (fail_if_success (have : h = trivial := rfl)) <;> (fail_if_success (have : h = not_false := rfl)) <;> first | contradiction | (exfalso; omega) | (exfalso; revert h; simp; done) | skip) | (refine SL.W.guardB (fun h => ?_) (fun h => ?_) <;> (fail_if_success (have : h = (rfl : true = true) := rfl)) <;> (fail_if_success (have : h = (rfl : false = false) := rfl))))) | (refine SL.TK.lp ?_; first | refine SL.W.loop (hL.out _ _ ?_)) | (refine SL.TK.is ?_; first | refine SL.TK.slot (d := 33) (by rfl) e33 ?_ | refine SL.TK.seq ?_ | refine SL.TK.region ?_ | refine SL.TK.regionD SL.mixed (by simp only [SL.falses] <;> rfl) ?_ | refine SL.TK.block ?_ | refine SL.TK.inBlock ?_ | refine SL.TK.skip ?_ | refine SL.TK.scope ?_ | refine SL.TK.inScope ?_ | refine SL.TK.label ?_ | refine SL.W.exit ?_ | refine SL.W.condT ?_ | refine SL.W.condF ?_ | (refine SL.W.condP (fun h => ?_) (fun h => ?_) <;> (fail_if_success (have : h = trivial := rfl)) <;> (fail_if_success (have : h = not_false := rfl)) <;> first | contradiction | (exfalso; omega) | (exfalso; revert h; simp; done) | skip) | refine SL.W.condB (fun h => ?_) (fun h => ?_)) | (refine SL.TD.is ?_; first | (refine SL.W.dfin ?_; simp only [List.append_nil, List.cons_append, List.nil_append]) | refine SL.W.dpass ?_ | refine SL.W.dpure ?_ | refine SL.W.dload ?_ | refine SL.W.dloadA ?_ | refine SL.W.dfrz ?_ | (refine SL.W.dthaw ?_; simp only [List.append_nil, List.cons_append, List.nil_append]) | (refine SL.W.dguardP (fun h => ?_) (fun h => ?_) <;> (fail_if_success (have : h = trivial := rfl)) <;> (fail_if_success (have : h = not_false := rfl)) <;> first | contradiction | (exfalso; omega) | (exfalso; revert h; simp; done) | skip) | (refine SL.W.dguardB (fun h => ?_) (fun h => ?_) <;> (fail_if_success (have : h = (rfl : true = true) := rfl)) <;> (fail_if_success (have : h = (rfl : false = false) := rfl))) | refine SL.W.done ?_ | refine SL.W.dtwo ?_ ?_ | refine SL.W.dthree ?_ ?_ ?_))
    all_goals
      first
      | exact SL.TK.retD Try.func4 (SL.Res.one rfl (by rfl)) ⟨rfl, rfl⟩ (EntD.cons (by first | ((repeat (first | exact SL.Pick.head | apply SL.Pick.tail)); done) | fail) EntD.nil)
      | (exfalso; have hm2 : more = true := (by simpa using (show (!more) = false by assumption)); have hy2 := hy hm2; omega)
  · have h1 : Hid (Spec Try.prog 14 [.slice p n cap, .int .i64 k] [SL.orig W] (fun r L => r = .tuple #[.int .u64 0, .bool false] ∧ L = [SL.orig W])) := Lib.hid <| by
      have := hN k hk
      rw [nthR, hxl, if_neg hin, decide_eq_false hin] at this
      exact this
    clear hX hN
    have e33 : 1 ≤ k → Value.bool (decide (¬ false = decide (k ≤ (n : Int)))) = .bool false := fun h => by
      have : ¬ k ≤ (n : Int) := fun c => hin ⟨h, c⟩
      simp [this]
    have e33b : Value.bool (decide (¬ false = false)) = .bool false := rfl
    refine SL.Spec.of_TK Go.Proofs.Try.func4 rfl rfl SL.call4 rfl ?_
    repeat' (first | refine SL.W.pvn (PV.minI (by rfl) (by rfl) hn) ?_ | (refine SL.TO.is ?_; first | (refine SL.TO.door (o := ⟨_, .call ⟨.value (.func 14), _, _⟩, _, _, _, _⟩) ?_; first | (refine SL.W.call (h1.out) ?_; rintro _ _ ⟨rfl, rfl⟩; try simp only [List.cons_append, List.nil_append])) | (refine SL.TO.door (o := ⟨_, .call ⟨.value (.func 18), _, _⟩, _, _, _, _⟩) ?_; first | (refine SL.W.call (hW.out) ?_; rintro _ _ ⟨rfl, rfl⟩; try simp only [List.cons_append, List.nil_append])) | refine SL.TO.nil ?_ | (refine SL.TO.nilD ?_; simp only [SL.setB]) | refine SL.W.pass ?_ | refine SL.W.pass0 ?_ | (refine SL.W.pure ?_; first | refine SL.W.pv ?_ | refine SL.W.pv0 ?_ | refine SL.W.lenMp ?_ | (refine SL.W.guardP (fun h => ?_) (fun h => ?_) <;> (fail_if_success (have : h = trivial := rfl)) <;> (fail_if_success (have : h = not_false := rfl)) <;> first | contradiction | (exfalso; omega) | (exfalso; revert h; simp; done) | skip) | (refine SL.W.guardB (fun h => ?_) (fun h => ?_) <;> (fail_if_success (have : h = (rfl : true = true) := rfl)) <;> (fail_if_success (have : h = (rfl : false = false) := rfl)))) | (refine SL.W.loud ?_; first | refine SL.W.load ?_ | refine SL.W.loadA ?_ | refine SL.W.store ?_ | refine SL.W.storeA ?_ | (refine SL.W.box ?_; intro b) | (refine SL.W.alloc ?_; intro b) | (refine SL.W.buildSlice ?_; intro b) | (refine SL.W.append ?_; intro a cap) | refine SL.W.bytesToStr ?_ | refine SL.W.pvn (SL.PV.toIntC (by rfl) (by first | exact SL.wrap_i64 (by omega) | exact SL.wrap_u8 (by omega) | exact SL.wrap_u32 (by omega) | exact SL.wrap_u64 (by omega) | rfl)) ?_ | (refine SL.W.makeSlice ?_; intro b) | refine SL.W.lookupOk ?_ | refine SL.W.lookup ?_ | (refine SL.W.makeMap ?_; intro b) | refine SL.W.mapUpdate ?_ | (refine SL.W.mapEntry ?_; intro stamp) | refine SL.W.entryStore ?_ | (refine SL.W.range ?_; intro it) | refine SL.W.delete ?_ | (refine SL.W.guardP (fun h => ?_) (fun h => ?_) <;> (fail_if_success (have : h = trivial := rfl)) <;> (fail_if_success (have : h = not_false := rfl)) <;> first | contradiction | (exfalso; omega) | (exfalso; revert h; simp; done) | skip) | (refine SL.W.guardB (fun h => ?_) (fun h => ?_) <;> (fail_if_success (have : h = (rfl : true = true) := rfl)) <;> (fail_if_success (have : h = (rfl : false = false) := rfl))))) | (refine SL.TK.is ?_; first | refine SL.TK.slot (d := 33) (by rfl) (e33 (by omega)) ?_ | refine SL.TK.seq ?_ | refine SL.TK.region ?_ | refine SL.TK.regionD SL.mixed (by simp only [SL.falses] <;> rfl) ?_ | refine SL.TK.block ?_ | refine SL.TK.inBlock ?_ | refine SL.TK.skip ?_ | refine SL.TK.scope ?_ | refine SL.TK.inScope ?_ | refine SL.TK.label ?_ | refine SL.W.exit ?_ | refine SL.W.condT ?_ | refine SL.W.condF ?_ | (refine SL.W.condP (fun h => ?_) (fun h => ?_) <;> (fail_if_success (have : h = trivial := rfl)) <;> (fail_if_success (have : h = not_false := rfl)) <;> first | contradiction | (exfalso; omega) | (exfalso; revert h; simp; done) | skip) | refine SL.W.condB (fun h => ?_) (fun h => ?_)) | (refine SL.TD.is ?_; first | (refine SL.W.dfin ?_; simp only [List.append_nil, List.cons_append, List.nil_append]) | refine SL.W.dpass ?_ | refine SL.W.dpure ?_ | refine SL.W.dload ?_ | refine SL.W.dloadA ?_ | refine SL.W.dfrz ?_ | (refine SL.W.dthaw ?_; simp only [List.append_nil, List.cons_append, List.nil_append]) | (refine SL.W.dguardP (fun h => ?_) (fun h => ?_) <;> (fail_if_success (have : h = trivial := rfl)) <;> (fail_if_success (have : h = not_false := rfl)) <;> first | contradiction | (exfalso; omega) | (exfalso; revert h; simp; done) | skip) | (refine SL.W.dguardB (fun h => ?_) (fun h => ?_) <;> (fail_if_success (have : h = (rfl : true = true) := rfl)) <;> (fail_if_success (have : h = (rfl : false = false) := rfl))) | refine SL.W.done ?_ | refine SL.W.dtwo ?_ ?_ | refine SL.W.dthree ?_ ?_ ?_))
    all_goals
      first
      | exact SL.TK.retD Try.func4 (SL.Res.one rfl (by rfl)) ⟨rfl, rfl⟩ (EntD.cons (by first | ((repeat (first | exact SL.Pick.head | apply SL.Pick.tail)); done) | fail) EntD.nil)
end SL

namespace Go.Proofs.Ytjnlkljmaiddnaa.votesPlace
open Go.ChangeShapes Go.WideShapes Go.ChangeAt Go.RowKit

theorem own : ownKnob Try.prog.godebug = none := by kernel_rfl
theorem laid : laidOutB Try.prog = true := by kernel_rfl

theorem contract (H : Type) (enc : TypeId × Value → H) (W : World) (base : Nat) (args : Array Value) (ds gs : List (DataW H)) (before : List MemPlace)
    (hval : ∀ (j : Nat) t v, Try.f4.params[j]? = some t → args[j]? = some v → Value.okWide Try.prog W .any base t v)
    (hW : DataW.Whole enc Try.prog Try.f4.params.toList Rows.votesPlaceSpec.vars false W args.toList ds gs before) :
    Calls Try.prog 4 args W fun e W' => ∃ v, e = .returned v ∧ Rows.votesPlaceSpec.post enc Try.prog Try.f4 false true false false W args v W' := by
  have hW' := hW
  obtain ⟨p, q, hA0, hV, rfl, hfz, hnd⟩ := hW
  have hA : DataW.TrodAll enc Try.prog W 0 (fun _ => true) true Try.f4.params.toList args.toList ds p := hA0
  rw [Try.params4] at hA hval
  obtain ⟨v0, vs0, d0, ds0, p0, q0, hargs, rfl, rfl, h0, r0⟩ := trodAll_cons hA
  obtain ⟨v1, vs1, d1, ds1, p1, q1, rfl, rfl, rfl, h1, r1⟩ := trodAll_cons r0
  obtain ⟨rfl, rfl, rfl⟩ := trodAll_nil r1
  obtain rfl : args = #[v0, v1] := by cases args; simp_all
  obtain ⟨rfl, rfl⟩ := trodVars_none hV
  refine SL.law_calls (ds := [d0, d1]) (gs := []) laid (by kernel_rfl) rfl rfl rfl (by kernel_rfl) hW' ?_
  obtain ⟨p, cap, zs, rfl, hc, hm, hn, hcell, _⟩ := SL.ints_in Try.underlying22 Try.underlying23 (by kernel_rfl) (hval 0 22 v0 rfl rfl) h0
  obtain ⟨k, rfl, _, _, hk⟩ := open_int Try.underlying3 (hval 1 3 v1 rfl rfl) h1
  exact SL.place_spec W p zs.length cap zs k rfl hc (Nat.le_trans hm (by decide +kernel)) hn (SL.wf_i64 hk) hcell

set_option maxRecDepth 100000 in
theorem lifted (os : Os) (started : os.Started) (H : Type) (enc : TypeId × Value → H) :
    ReturnsInHanded {} Try.checked os 4 .any (Rows.votesPlaceSpec.pre6 enc Try.prog Try.f4 [] false) (Rows.votesPlaceSpec.post enc Try.prog Try.f4 false true false false) := by
  refine returnsInHanded_of_change own started (by kernel_rfl) Try.func4
    (ChangeSpec.witness6 false ⟨#[], #[.slice none 0 0, .int .i64 0], []⟩ 8 (by kernel_rfl) (by kernel_rfl) (by kernel_rfl) (by kernel_rfl)) ?_
  intro W base args ds gs before hval hW _ _
  exact contract H enc W base args ds gs before hval hW

theorem proved : Rows.VotesPlaceSaid :=
  OpenClaim.holds_of_wide 4 Try.f4 rfl rfl rfl rfl rfl rfl rfl ⟨rfl, rfl, rfl, rfl, rfl⟩ rfl rfl rfl rfl rfl (by kernel_rfl) Try.func4 (by kernel_rfl)
    (of_decide_eq_true (by kernel_rfl)) (by unfold Func.isWrapper; first | (rw [if_pos (by decide +kernel)]; kernel_rfl) | (rw [if_neg (by decide +kernel)]; exact ⟨rfl, rfl⟩))
    (fun os started H enc _ => lifted os started H enc)
end Go.Proofs.Ytjnlkljmaiddnaa.votesPlace
