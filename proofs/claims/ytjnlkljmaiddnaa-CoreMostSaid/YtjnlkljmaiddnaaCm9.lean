/-
  The law's awake; a group of cores: begun.
-/
import Derived.Test.YtjnlkljmaiddnaaCm0
set_option linter.unusedVariables false
set_option linter.unusedSimpArgs false
set_option maxRecDepth 10000

namespace SL
open Go Go.Proofs Go.RowKit
/-! the greatest but so many -/
theorem le_sorted : ∀ {ys : List Int} (hs : ys.Pairwise (· ≤ ·)) {i : Nat} (hi : i < ys.length) (v : Int), v ≤ ys[i] ↔ ys.length - i ≤ ys.countP (fun y => decide (v ≤ y))
  | [], _, i, hi, _ => by simp at hi
  | y :: ys, hs, 0, hi, v => by
    have hle := List.countP_le_length (p := fun y : Int => decide (v ≤ y)) (l := ys)
    simp only [List.getElem_cons_zero, List.countP_cons, List.length_cons, Nat.sub_zero]
    constructor
    · intro h
      have hall : ys.countP (fun y => decide (v ≤ y)) = ys.length := List.countP_eq_length.2 fun z hz => by
        have := (List.pairwise_cons.1 hs).1 z hz
        simp; omega
      rw [hall, if_pos (by simpa using h)]
      exact Nat.le_refl _
    · intro h
      by_cases hv : v ≤ y
      · exact hv
      · rw [if_neg (by simpa using hv)] at h
        omega
  | y :: ys, hs, i + 1, hi, v => by
    have hi' : i < ys.length := by simpa using hi
    have ih := le_sorted (List.pairwise_cons.1 hs).2 hi' v
    simp only [List.getElem_cons_succ, List.countP_cons, List.length_cons, Nat.add_sub_add_right]
    rw [ih]
    by_cases hv : v ≤ y
    · have hall : ys.countP (fun y => decide (v ≤ y)) = ys.length := List.countP_eq_length.2 fun z hz => by
        have := (List.pairwise_cons.1 hs).1 z hz
        simp; omega
      rw [hall, if_pos (by simpa using hv)]
      omega
    · rw [if_neg (by simpa using hv)]
      rfl
theorem le_kth {n : Nat} {l : List Int} (h1 : 1 ≤ n) (hl : n ≤ l.length) (v : Int) : v ≤ kth n l ↔ n / 2 + 1 ≤ (l.take n).countP (fun y => decide (v ≤ y)) := by
  have hlen : (srt (l.take n)).length = n := by rw [srt_length]; simp; omega
  have hi : n - (n / 2 + 1) < (srt (l.take n)).length := by omega
  have h := le_sorted (srt_sorted (l.take n)) hi v
  rw [nat_eq hi, hlen, (srt_perm (l.take n)).countP_eq] at h
  unfold kth
  rw [h]
  have : n - (n - (n / 2 + 1)) = n / 2 + 1 := by omega
  rw [this]
theorem kth_eq {n : Nat} {l : List Int} {v : Int} (h1 : 1 ≤ n) (hl : n ≤ l.length) (ha : n / 2 + 1 ≤ (l.take n).countP (fun y => decide (v ≤ y))) (hb : (l.take n).countP (fun y => decide (v + 1 ≤ y)) < n / 2 + 1) : kth n l = v := by
  have a := (le_kth h1 hl v).2 ha
  have b := fun h => (le_kth h1 hl (v + 1)).1 h
  by_cases hc : v + 1 ≤ kth n l
  · have := b hc; omega
  · omega
theorem Pick.mid {p : HProp} {b : List HProp} : ∀ {a : List HProp}, Pick (a ++ p :: b) p (a ++ b)
  | [] => Pick.head
  | x :: a => (Pick.mid (a := a)).tail
def CosAt (l : List (Nat × Cs)) : HProp := seps (l.map fun p => CoreAt p.1 p.2)
/-- all but the core at place i -/
def CosX (i : Nat) (l : List (Nat × Cs)) : HProp := seps ((l.take i ++ l.drop (i + 1)).map fun p => CoreAt p.1 p.2)
theorem cos_split {l : List (Nat × Cs)} {i : Nat} (hi : i < l.length) : l = l.take i ++ l[i] :: l.drop (i + 1) := by
  rw [← List.drop_eq_getElem_cons hi, List.take_append_drop]
theorem cos_iff {l : List (Nat × Cs)} {i : Nat} {p : Nat × Cs} (hi : i < l.length) (hp : l[i] = p) (h : Hp) : CosAt l h ↔ sep (CoreAt p.1 p.2) (CosX i l) h := by
  subst hp
  unfold CosAt CosX
  have e := cos_split hi
  have e2 : (l.map fun p => CoreAt p.1 p.2) = ((l.take i).map fun p => CoreAt p.1 p.2) ++ CoreAt l[i].1 l[i].2 :: ((l.drop (i + 1)).map fun p => CoreAt p.1 p.2) := by
    conv => lhs; rw [e]
    rw [List.map_append, List.map_cons]
  rw [e2, List.map_append]
  exact Pick.mid h
theorem seps_one {p : HProp} {h : Hp} : seps [p] h ↔ p h := ⟨fun x => sep_emp.1 (sep_comm x), fun x => sep_comm (sep_emp.2 x)⟩
theorem seps_two {p q : HProp} {h : Hp} : seps [p, q] h ↔ sep p q h := ⟨fun x => sep_mono (fun _ y => y) (fun _ y => seps_one.1 y) x, fun x => sep_mono (fun _ y => y) (fun _ y => seps_one.2 y) x⟩
theorem cos_open {L r : List HProp} {l : List (Nat × Cs)} {i : Nat} {p : Nat × Cs} (hi : i < l.length) (hp : l[i] = p) (k : Pick L (CosAt l) r) : EntD L (CoreAt p.1 p.2 :: CosX i l :: r) :=
  EntD.of_ent fun h x => sep_assoc.1 (sep_mono (fun _ y => (cos_iff hi hp _).1 y) (fun _ y => y) ((k h).1 x))
theorem cos_shut {l : List (Nat × Cs)} {i : Nat} {c : Nat} {s s' : Cs} (hi : i < l.length) (hp : l[i] = (c, s)) : ∀ h, seps [CoreAt c s', CosX i l] h → CosAt (l.set i (c, s')) h := fun h x => by
  have hi2 : i < (l.set i (c, s')).length := by simpa using hi
  refine (cos_iff (p := (c, s')) hi2 (by simp) h).2 ?_
  have e : CosX i (l.set i (c, s')) = CosX i l := by
    unfold CosX
    rw [List.take_set_of_le (Nat.le_refl _), List.drop_set_of_lt (by omega)]
  rw [e]
  exact seps_two.1 x
theorem cos_snoc {l : List (Nat × Cs)} {c : Nat} {s : Cs} : ∀ h, seps [CosAt l, CoreAt c s] h → CosAt (l ++ [(c, s)]) h := fun h x => by
  unfold CosAt at x ⊢
  rw [List.map_append]
  exact seps_append.2 x
theorem cos_nil {L : List HProp} : EntD L (CosAt [] :: L) := EntD.of_ent fun h x => sep_emp.2 x
/-- messages on their way, as the cells cs; their commands may be read in g -/
def Bg (g : Hp) : List (Nat × Mg) → List Value → Prop
  | [], cs => cs = []
  | m :: T, cs => ∃ (a : Option Addr) (c : Nat) (r : List Value), cs = (.int .i64 m.1 :: mgC m.2 a c) ++ r ∧ RdG g a (m.2.e.2.2.2.map byteV) ∧ Bg g T r
theorem Bg.len {g : Hp} : ∀ {T : List (Nat × Mg)} {cs : List Value}, Bg g T cs → cs.length = T.length * 21
  | [], cs, h => by subst h; rfl
  | p :: T, cs, ⟨a, c, r, h1, h2, h4⟩ => by
    rw [h1, List.length_append, Bg.len h4]
    simp [mgC]; omega
theorem Bg.le {g g' : Hp} (hg : HLe g g') : ∀ {T : List (Nat × Mg)} {cs : List Value}, Bg g T cs → Bg g' T cs
  | [], cs, h => h
  | p :: T, cs, ⟨a, c, r, h1, h2, h4⟩ => ⟨a, c, r, h1, h2.le hg, Bg.le hg h4⟩
theorem Bg.at {g : Hp} : ∀ {T : List (Nat × Mg)} {cs : List Value} {i : Nat} (h : Bg g T cs) (hi : i < T.length), ∃ a c, Cut cs (i * 21) 21 (.int .i64 T[i].1 :: mgC T[i].2 a c) ∧ RdG g a (T[i].2.e.2.2.2.map byteV)
  | [], cs, i, h, hi => by simp at hi
  | p :: T, cs, 0, ⟨a, c, r, h1, h2, h4⟩, hi => by
    refine ⟨a, c, Cut.intro rfl fun j v hj => ?_, h2⟩
    rw [h1]
    rw [List.getElem?_append_left (by have := (List.getElem?_eq_some_iff.1 hj).1; simpa using this)]
    simpa using hj
  | p :: T, cs, i + 1, ⟨a, c, r, h1, h2, h4⟩, hi => by
    obtain ⟨a', c', hc, h5⟩ := Bg.at h4 (i := i) (by simpa using hi)
    refine ⟨a', c', Cut.intro rfl fun j v hj => ?_, h5⟩
    rw [h1]
    have := hc.at_ hj
    have e1 : (Value.int .i64 p.1 :: mgC p.2 a c).length = 21 := rfl
    rw [List.getElem?_append_right (by rw [e1]; omega), e1, show (i + 1) * 21 + j - 21 = i * 21 + j from by omega]
    exact this
theorem Bg.append {g : Hp} : ∀ {T U : List (Nat × Mg)} {cs ds : List Value}, Bg g T cs → Bg g U ds → Bg g (T ++ U) (cs ++ ds)
  | [], U, cs, ds, h, k => by
    have : cs = [] := h
    subst this
    exact k
  | p :: T, U, cs, ds, ⟨a, c, r, h1, h2, h4⟩, k => ⟨a, c, r ++ ds, by rw [h1]; simp, h2, Bg.append h4 k⟩
theorem Bg.snoc {g : Hp} {m : Nat × Mg} {a : Option Addr} {c : Nat} {T : List (Nat × Mg)} {cs : List Value} (h : Bg g T cs) (hr : RdG g a (m.2.e.2.2.2.map byteV)) : Bg g (T ++ [m]) (cs ++ (.int .i64 m.1 :: mgC m.2 a c)) :=
  h.append (U := [m]) ⟨a, c, [], by simp, hr, rfl⟩
theorem Bg.drop {g : Hp} : ∀ {T : List (Nat × Mg)} {cs : List Value} (k : Nat), Bg g T cs → Bg g (T.drop k) (cs.drop (k * 21))
  | T, cs, 0, h => by simpa using h
  | [], cs, k + 1, h => by
    have : cs = [] := h
    subst this
    simp [Bg]
  | p :: T, cs, k + 1, ⟨a, c, r, h1, h2, h4⟩ => by
    rw [h1, show (k + 1) * 21 = k * 21 + 21 from by omega]
    exact Bg.drop k h4
theorem Bg.take {g : Hp} : ∀ {T : List (Nat × Mg)} {cs : List Value} (k : Nat), Bg g T cs → Bg g (T.take k) (cs.take (k * 21))
  | T, cs, 0, h => by simp [Bg]
  | [], cs, k + 1, h => by
    have : cs = [] := h
    subst this
    simp [Bg]
  | p :: T, cs, k + 1, ⟨a, c, r, h1, h2, h4⟩ => by
    rw [h1, show (k + 1) * 21 = k * 21 + 21 from by omega]
    exact ⟨a, c, r.take (k * 21), rfl, h2, Bg.take k h4⟩
theorem Bg.one {g : Hp} : ∀ {T : List (Nat × Mg)} {cs : List Value}, Bg g T cs → ∀ v ∈ cs, v.oneCell' = true
  | [], cs, h, v, hv => by
    have : cs = [] := h
    subst this
    simp at hv
  | p :: T, cs, ⟨a, c, r, h1, h2, h4⟩, v, hv => by
    rw [h1] at hv
    rcases List.mem_append.1 hv with hv | hv
    · simp only [mgC, List.mem_cons, List.not_mem_nil, or_false] at hv
      rcases hv with rfl | rfl | rfl | rfl | rfl | rfl | rfl | rfl | rfl | rfl | rfl | rfl | rfl | rfl | rfl | rfl | rfl | rfl | rfl | rfl | rfl <;> rfl
    · exact Bg.one h4 v hv
def ptrV (p : Nat × Cs) : Value := .pointer (some ⟨p.1, 0, none⟩)
/-- a group -/
def GroupAt (gb : Nat) (l : List (Nat × Cs)) (bag : List (Nat × Mg)) : HProp := SL.ex fun p : (Nat × Nat × Nat × List Value) × (Option Addr × Nat × Nat) × Hp × List Value =>
  seps [SL.fact (p.1.2.2.1 = l.length ∧ Bg p.2.2.1 bag p.2.2.2 ∧ p.2.1.2.1 = bag.length), SL.blk gb 77 [.slice (some ⟨p.1.1, 0, none⟩) p.1.2.2.1 p.1.2.1, .slice p.2.1.1 p.2.1.2.1 p.2.1.2.2], SL.blk p.1.1 87 (l.map ptrV ++ p.1.2.2.2), CosAt l, ownO 85 21 p.2.1.1 p.2.1.2.1 p.2.1.2.2 p.2.2.2, RO p.2.2.1]
theorem gr_shut {gb lp lc N m bc : Nat} {ba : Option Addr} {ex bs : List Value} {g : Hp} {l : List (Nat × Cs)} {bag : List (Nat × Mg)} (hN : N = l.length) (hb : Bg g bag bs) (hm : m = bag.length) :
    ∀ h, seps [SL.blk gb 77 [.slice (some ⟨lp, 0, none⟩) N lc, .slice ba m bc], SL.blk lp 87 (l.map ptrV ++ ex), CosAt l, ownO 85 21 ba m bc bs, RO g] h → GroupAt gb l bag h :=
  fun h x => ⟨((lp, lc, N, ex), (ba, m, bc), g, bs), sep_fact.2 ⟨⟨hN, hb, hm⟩, x⟩⟩
section
variable {P : Program} {fid : Fm} {n : Nat} {post : Post} {k : List Item} {ρ : Env} {L r : List HProp}
theorem TK.openGr {gb : Nat} {l : List (Nat × Cs)} {bag : List (Nat × Mg)} (hp : Pick L (GroupAt gb l bag) r) (h : ∀ (lp lc N m bc : Nat) (ba : Option Addr) (ex bs : List Value) (g : Hp), N = l.length → Bg g bag bs → m = bag.length →
    TK P fid n post k ρ (SL.blk gb 77 [.slice (some ⟨lp, 0, none⟩) N lc, .slice ba m bc] :: SL.blk lp 87 (l.map ptrV ++ ex) :: CosAt l :: ownO 85 21 ba m bc bs :: RO g :: r)) : TK P fid n post k ρ L :=
  TK.exC hp fun p => TK.sepsC Pick.head (TK.fact Pick.head fun hv => h p.1.1 p.1.2.1 p.1.2.2.1 p.2.1.2.1 p.2.1.2.2 p.2.1.1 p.1.2.2.2 p.2.2.2 p.2.2.1 hv.1 hv.2.1 hv.2.2)
end
attribute [local irreducible] SL.TK SL.TO SL.TD SL.PV SL.Pick SL.Frm SL.Ent SL.Sub SL.EvAll SL.seps SL.sep SL.Cut SL.PutAt SL.blk SL.EvP SL.Fill SL.Src SL.EntD SL.own SL.ex SL.fact SL.orig
def e7 : En := (7, 1, 7, [7])
def A1 : Cs := ⟨0, 3, 0, 0, [e7], 0, 0, [1, 0, 0, 0, 0, 0, 0], z7⟩
def A2 : Cs := ⟨0, 3, 0, 0, [e7], 1, 0, [1, 1, 0, 0, 0, 0, 0], z7⟩
def B1 : Cs := ⟨1, 3, 0, 0, [e7], 0, 0, z7, z7⟩
theorem kz : kth 3 z7 = 0 := kth_eq (by omega) (by decide) (by decide) (by decide)
theorem k100 : kth 3 [1, 0, 0, 0, 0, 0, 0] = 0 := kth_eq (by omega) (by decide) (by decide) (by decide)
theorem k110 : kth 3 [1, 1, 0, 0, 0, 0, 0] = 1 := kth_eq (by omega) (by decide) (by decide) (by decide)
theorem gA1 : goesR { c0 0 3 0 with es := (c0 0 3 0).es ++ [e7] } = A1 := by
  show (⟨0, 3, 0, 0, [e7], max 0 (kth 3 [1, 0, 0, 0, 0, 0, 0]), max 0 (min (max 0 (kth 3 [1, 0, 0, 0, 0, 0, 0])) (kth 3 z7)), [1, 0, 0, 0, 0, 0, 0], z7⟩ : Cs) = A1
  rw [k100, kz]
  rfl
theorem gA2 : goesR (okR A1 1 1 0) = A2 := by
  show (⟨0, 3, 0, 0, [e7], max 0 (kth 3 [1, 1, 0, 0, 0, 0, 0]), max 0 (min (max 0 (kth 3 [1, 1, 0, 0, 0, 0, 0])) (kth 3 z7)), [1, 1, 0, 0, 0, 0, 0], z7⟩ : Cs) = A2
  rw [k110, kz]
  rfl
theorem gA3 : goesR (beatR A2 0) = A2 := by
  show (⟨0, 3, 0, 0, [e7], max 1 (kth 3 [1, 1, 0, 0, 0, 0, 0]), max 0 (min (max 1 (kth 3 [1, 1, 0, 0, 0, 0, 0])) (kth 3 z7)), [1, 1, 0, 0, 0, 0, 0], z7⟩ : Cs) = A2
  rw [k110, kz]
  rfl
theorem awake_spec : Spec Try.prog 36 [] [] (fun r L => r = .bool true ∧ L = []) := by
  have m0 := Lib.hid (made_spec 0 3 0 (by omega) (by omega) rfl (by omega))
  have m1 := Lib.hid (made_spec 1 3 0 (by omega) (by omega) rfl (by omega))
  have m2 := Lib.hid (made_spec 2 3 0 (by omega) (by omega) rfl (by omega))
  have he := Lib.hid (entry_spec 7 (by omega))
  have kA : CsOk (c0 0 3 0) := c0_ok (by omega) (by omega) (by omega) (by omega)
  have kB : CsOk (c0 1 3 0) := c0_ok (by omega) (by omega) (by omega) (by omega)
  have kC : CsOk (c0 2 3 0) := c0_ok (by omega) (by omega) (by omega) (by omega)
  have kA1 : CsOk A1 := ⟨by decide, by decide, by decide, by decide, by decide, by decide, by simp [A1, e7]⟩
  have kA2 : CsOk A2 := ⟨by decide, by decide, by decide, by decide, by decide, by decide, by simp [A2, e7]⟩
  have hP := fun (ca b : Nat) => prop_spec (Y := own 5 1 (some ⟨b, 0, none⟩) 1 1 ([(7 : UInt8)].map byteV)) ca (c0 0 3 0) kA rfl e7 (some ⟨b, 0, none⟩) 1 (RdB.own (fun h => by cases h)) (by simp [e7]) (by simp [c0])
  rw [gA1] at hP
  have hP := Lib.hid hP
  have hQ := Lib.hid fun (cb : Nat) (a : Option Addr) (c : Nat) (h0 : a = none → e7.2.2.2 = []) => prep_next (Y := own 5 1 a 1 c ([(7 : UInt8)].map byteV)) cb (c0 1 3 0) kB (by decide) 0 0 0 0 0 e7 a c (RdB.own h0) (by simp [e7]) (by simp [c0])
  have hO := fun (ca : Nat) => ok_spec ca A1 kA1 rfl 1 1 0 0 0 e0 none 0 (by decide) (by decide) (by decide)
  rw [gA2] at hO
  have hO := Lib.hid hO
  have hB := fun (ca : Nat) => beat_spec ca A2 kA2 rfl 0
  rw [gA3] at hB
  have hB := Lib.hid hB
  have hH := Lib.hid fun (cc : Nat) => heard_spec cc (c0 2 3 0) kC (by decide) 0 1 1 0 0 0 e0 none 0
  have hC := Lib.hid fun (ca : Nat) => coCommit_spec ca A2
  have hPr := Lib.hid fun (ca : Nat) => coPrimA_spec ca A2 kA2 true rfl
  have hPB := Lib.hid fun (cb : Nat) => coPrimA_spec cb B1 ⟨by decide, by decide, by decide, by decide, by decide, by decide, by simp [B1, e7]⟩ false rfl
  clear kA kB kC kA1 kA2
  refine SL.Spec.of_TK Go.Proofs.Try.func36 rfl rfl SL.call36 rfl ?_
  repeat' (first | (refine SL.TO.is ?_; first | (refine SL.W.quick ?_; first | refine SL.W.pass ?_ | refine SL.W.pv ?_ | refine SL.W.pv0 ?_) | (refine SL.TO.door (o := ⟨_, .call _, _, _, _, _⟩) ?_; first | (refine SL.TO.door (o := ⟨_, .call ⟨.value (.func 51), _, _⟩, _, _, _, _⟩) ?_; first | (first | (refine SL.W.call (m0.out) ?_; rintro _ _ ⟨ca, rfl, rfl⟩; try simp only [List.cons_append, List.nil_append]) | (refine SL.W.call (m1.out) ?_; rintro _ _ ⟨cb, rfl, rfl⟩; try simp only [List.cons_append, List.nil_append]) | (refine SL.W.call (m2.out) ?_; rintro _ _ ⟨cc, rfl, rfl⟩; try simp only [List.cons_append, List.nil_append]))) | (refine SL.TO.door (o := ⟨_, .call ⟨.value (.func 46), _, _⟩, _, _, _, _⟩) ?_; first | (refine SL.W.call (he.out) ?_; rintro _ _ ⟨eb, rfl, rfl⟩; try simp only [List.cons_append, List.nil_append])) | (refine SL.TO.door (o := ⟨_, .call ⟨.value (.func 45), _, _⟩, _, _, _, _⟩) ?_; first | (refine SL.W.call (hP.out _ _) ?_; rintro _ _ ⟨a1, c1, rfl, ha1, rfl⟩; try simp only [List.cons_append, List.nil_append])) | (refine SL.TO.door (o := ⟨_, .call ⟨.value (.func 52), _, _⟩, _, _, _, _⟩) ?_; first | (refine SL.W.call (hQ.out _ _ _ ha1) ?_; rintro _ _ ⟨rfl, rfl⟩; try simp only [List.cons_append, List.nil_append])) | (refine SL.TO.door (o := ⟨_, .call ⟨.value (.func 57), _, _⟩, _, _, _, _⟩) ?_; first | (refine SL.W.call (hO.out _) ?_; rintro _ _ ⟨rfl, rfl⟩; try simp only [List.cons_append, List.nil_append])) | (refine SL.TO.door (o := ⟨_, .call ⟨.value (.func 47), _, _⟩, _, _, _, _⟩) ?_; first | (refine SL.W.call (hB.out _) ?_; rintro _ _ ⟨rfl, rfl⟩; try simp only [List.cons_append, List.nil_append])) | (refine SL.TO.door (o := ⟨_, .call ⟨.value (.func 67), _, _⟩, _, _, _, _⟩) ?_; first | (refine SL.W.call (hH.out _) ?_; rintro _ _ ⟨rfl, rfl⟩; try simp only [List.cons_append, List.nil_append])) | (refine SL.TO.door (o := ⟨_, .call ⟨.value (.func 40), _, _⟩, _, _, _, _⟩) ?_; first | (refine SL.W.call (hC.out _) ?_; rintro _ _ ⟨rfl, rfl⟩; try simp only [List.cons_append, List.nil_append])) | (refine SL.TO.door (o := ⟨_, .call ⟨.value (.func 56), _, _⟩, _, _, _, _⟩) ?_; first | (first | (refine SL.W.call (hPr.out _) ?_; rintro _ _ ⟨rfl, rfl⟩; try simp only [List.cons_append, List.nil_append]) | (refine SL.W.call (hPB.out _) ?_; rintro _ _ ⟨rfl, rfl⟩; try simp only [List.cons_append, List.nil_append])))) | refine SL.TO.nil ?_ | (refine SL.TO.nilD ?_; simp only [SL.setB]) | refine SL.W.pass ?_ | refine SL.W.pass0 ?_ | (refine SL.W.pure ?_; first | refine SL.W.pv ?_ | refine SL.W.pv0 ?_) | (refine SL.W.loud ?_; first | refine SL.W.load ?_ | refine SL.W.loadA ?_ | refine SL.W.store ?_ | refine SL.W.storeA ?_ | (refine SL.W.box ?_; intro b) | (refine SL.W.alloc ?_; intro b) | (refine SL.W.buildSlice ?_; intro b) | (refine SL.W.append ?_; intro a cap) | refine SL.W.bytesToStr ?_ | refine SL.W.pvn (SL.PV.toIntC (by rfl) (by first | exact SL.wrap_i64 (by omega) | exact SL.wrap_u8 (by omega) | exact SL.wrap_u32 (by omega) | exact SL.wrap_u64 (by omega) | rfl)) ?_ | (refine SL.W.makeSlice ?_; intro b)) | (refine SL.W.guardP (fun h => ?_) (fun h => ?_) <;> (fail_if_success (have : h = trivial := rfl)) <;> (fail_if_success (have : h = not_false := rfl)) <;> first | contradiction | (exfalso; omega) | (exfalso; revert h; simp; done) | skip) | (refine SL.W.guardB (fun h => ?_) (fun h => ?_) <;> (fail_if_success (have : h = (rfl : true = true) := rfl)) <;> (fail_if_success (have : h = (rfl : false = false) := rfl)))) | (refine SL.TK.is ?_; first | refine SL.TK.seq ?_ | refine SL.TK.region ?_ | refine SL.TK.regionD SL.mixed (by simp only [SL.falses] <;> rfl) ?_ | refine SL.TK.block ?_ | refine SL.TK.inBlock ?_ | refine SL.TK.skip ?_ | refine SL.TK.scope ?_ | refine SL.TK.inScope ?_ | refine SL.TK.label ?_ | (refine SL.TK.isExit ?_; refine SL.W.exit ?_) | refine SL.W.condT ?_ | refine SL.W.condF ?_ | (refine SL.W.condP (fun h => ?_) (fun h => ?_) <;> (fail_if_success (have : h = trivial := rfl)) <;> (fail_if_success (have : h = not_false := rfl)) <;> first | contradiction | (exfalso; omega) | (exfalso; revert h; simp; done) | skip) | refine SL.W.condB (fun h => ?_) (fun h => ?_)) | (refine SL.TD.is ?_; first | (refine SL.W.dfin ?_; simp only [List.append_nil, List.cons_append, List.nil_append]) | refine SL.W.dpass ?_ | refine SL.W.dpure ?_ | refine SL.W.dload ?_ | refine SL.W.dloadA ?_ | refine SL.W.dfrz ?_ | (refine SL.W.dthaw ?_; simp only [List.append_nil, List.cons_append, List.nil_append]) | (refine SL.W.dguardP (fun h => ?_) (fun h => ?_) <;> (fail_if_success (have : h = trivial := rfl)) <;> (fail_if_success (have : h = not_false := rfl)) <;> first | contradiction | (exfalso; omega) | (exfalso; revert h; simp; done) | skip) | (refine SL.W.dguardB (fun h => ?_) (fun h => ?_) <;> (fail_if_success (have : h = (rfl : true = true) := rfl)) <;> (fail_if_success (have : h = (rfl : false = false) := rfl))) | refine SL.W.done ?_ | refine SL.W.dtwo ?_ ?_ | refine SL.W.dthree ?_ ?_ ?_))
  all_goals exact SL.TK.retD Try.func36 (SL.Res.one rfl (by rfl)) ⟨rfl, rfl⟩ EntD.nil
end SL
