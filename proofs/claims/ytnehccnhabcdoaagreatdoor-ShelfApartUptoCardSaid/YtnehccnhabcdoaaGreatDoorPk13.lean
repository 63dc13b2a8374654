/-
  ShelfApart: a copy of a shelf goes its own way, for all names and any other name. Conditions: the arguments' bulk is at most 1048576 (the second form); the table utf.forms holds what the program's text lays (the card ties it); unit.moves may hold anything.
-/
import Derived.Test.YtnehccnhabcdoaaGreatDoorPk12
import Derived.Test.YtnehccnhabcdoaaGreatDoorCards
import Derived.Test.YtnehccnhabcdoaaGreatDoorTie
import Derived.Deep.DeepHandedRow
import Derived.Lib.LaidTab
section
set_option linter.unusedVariables false
set_option linter.unusedSimpArgs false
set_option maxRecDepth 10000
namespace Go.Proofs.YtnehccnhabcdoaaGreatDoor.bulks
theorem part_le {H : Type} {d : DataW H} {l : List (DataW H)} (h : d ∈ l) : Rows.uptoBulk d ≤ Rows.uptoBulkAll l := by
  induction l with
  | nil => cases h
  | cons x r ih =>
    simp only [Rows.uptoBulkAll]
    cases List.mem_cons.1 h with
    | inl e => subst e; omega
    | inr e => have := ih e; omega
theorem bound {H : Type} {l : List (DataW H)} (hk : Rows.uptoSmall H l = true) : Rows.uptoBulkAll l ≤ 1048576 := of_decide_eq_true hk
end Go.Proofs.YtnehccnhabcdoaaGreatDoor.bulks
namespace SL
open Go Go.Proofs Go.ChangeShapes Go.WideShapes Go.ChangeAt Go.RowKit
section
variable {H : Type} {enc : TypeId × Value → H} {W : World}
theorem strOf_data (s : ByteArray) : strOf s.data.toList = s := by
  cases s
  simp [strOf]
theorem form_cells {sp : Nat → Bool} {held : Bool} {n : Nat} {cs : List Value} {a b c : Int} {p : List MemPlace}
    (h : DataW.trod enc Tryz.prog W 0 sp held n 200 cs = some (.agg [.lit (.int .i32 a), .lit (.int .u8 b), .lit (.int .u64 c)], p)) : cs = [.int .i32 a, .int .u8 b, .int .u64 c] := by
  obtain ⟨xs, m, rfl, hx, hl, hn, hi⟩ := DataW.trod_struct Tryz.underlying200 h
  have lf : Tryz.prog.cellsOf 200 = 3 := by kernel_rfl
  have l0 : Tryz.prog.cellsOf 81 = 1 := by kernel_rfl
  have l1 : Tryz.prog.cellsOf 5 = 1 := by kernel_rfl
  have l2 : Tryz.prog.cellsOf 165 = 1 := by kernel_rfl
  rw [lf] at hl
  have e := (Prod.mk.inj hx).1
  simp only [DataW.agg.injEq] at e
  match cs, hl, xs, hn with
  | [x, y, z], _, [u, v, w], _ =>
    have h0 : DataW.trod enc Tryz.prog W 0 sp held m 81 [x] = some u := by have := hi 0 _ rfl; simpa [l0] using this
    have h1 : DataW.trod enc Tryz.prog W 0 sp held m 5 [y] = some v := by have := hi 1 _ rfl; simpa [l1] using this
    have h2 : DataW.trod enc Tryz.prog W 0 sp held m 165 [z] = some w := by have := hi 2 _ rfl; simpa [l2] using this
    obtain ⟨n0, e0, d0, _⟩ := DataW.trod_int (k := .i32) (by kernel_rfl) h0
    obtain ⟨n1, e1, d1, _⟩ := DataW.trod_int (k := .u8) (by kernel_rfl) h1
    obtain ⟨n2, e2, d2, _⟩ := DataW.trod_int (k := .u64) (by kernel_rfl) h2
    simp at e0 e1 e2
    subst e0 e1 e2 d0 d1 d2
    simp at e
    obtain ⟨rfl, rfl, rfl⟩ := e
    rfl
theorem gForms : Tryz.prog.globalNamed "copybook/utf.forms" = some 1 := by kernel_rfl
theorem gFormsT : (Tryz.prog.globals[1]?).map (·.type) = some 201 := by kernel_rfl
theorem forms_in (h : laidMetH Tryz.prog Go.Proofs.YtnehccnhabcdoaaGreatDoor.Rows.shelfApartUptoRow.laid W) : FormsIn (SL.orig W) := by
  have h' : laidMet Tryz.prog [("copybook/utf.forms", Go.Proofs.YtnehccnhabcdoaaGreatDoor.Rows.laid_copybook_utf_forms)] W := h
  obtain ⟨ps, ⟨g, t, cs, fuel, p, q, hg, ht, hvar, hd, _, _⟩, _⟩ := h'
  obtain rfl := Option.some.inj (gForms.symm.trans hg)
  obtain rfl := Option.some.inj (gFormsT.symm.trans ht)
  obtain ⟨xs, m, rfl, hx, hl, hn, hi⟩ := DataW.trod_array Tryz.underlying201 hd
  have lf : Tryz.prog.cellsOf 200 = 3 := by kernel_rfl
  have la : Tryz.prog.cellsOf 201 = 12 := by kernel_rfl
  rw [la] at hl
  simp only [lf] at hi
  have e := (Prod.mk.inj hx).1
  simp only [Go.Proofs.YtnehccnhabcdoaaGreatDoor.Rows.laid_copybook_utf_forms, DataW.agg.injEq] at e
  have hcs : cs.toList = fmC := by
    match xs, hn with
    | [u0, u1, u2, u3], _ =>
      obtain ⟨u0, v0⟩ := u0
      obtain ⟨u1, v1⟩ := u1
      obtain ⟨u2, v2⟩ := u2
      obtain ⟨u3, v3⟩ := u3
      simp at e
      obtain ⟨rfl, rfl, rfl, rfl⟩ := e
      have h0 := form_cells (hi 0 (by omega))
      have h1 := form_cells (hi 1 (by omega))
      have h2 := form_cells (hi 2 (by omega))
      have h3 := form_cells (hi 3 (by omega))
      obtain ⟨l, hL⟩ : ∃ l, cs.toList = l := ⟨_, rfl⟩
      rw [hL] at h0 h1 h2 h3 hl ⊢
      match l, hl with
      | [a0, a1, a2, b0, b1, b2, c0, c1, c2, d0, d1, d2], _ =>
        simp at h0 h1 h2 h3
        obtain ⟨rfl, rfl, rfl⟩ := h0
        obtain ⟨rfl, rfl, rfl⟩ := h1
        obtain ⟨rfl, rfl, rfl⟩ := h2
        obtain ⟨rfl, rfl, rfl⟩ := h3
        rfl
  refine RdA.orig (fun j v hj => ?_)
  have hc := Go.World.var?_cell gForms hvar j
  rw [show (⟨1, 0, none⟩ : Addr).add j = ⟨1, j, none⟩ by unfold Addr.add; split <;> simp_all, hc, ← hj, ← hcs]
  simp
theorem names_in {base : Nat} {v : Value} {d : DataW H} {ps : List MemPlace} (hval : Value.okWide Tryz.prog W .any base 22 v) (h : DataW.Trod enc Tryz.prog W 0 (fun _ => true) true 22 v d ps) :
    ∃ (a : Option Addr) (n cap : Nat) (l : List Nm), v = .slice a n cap ∧ l.length = n ∧ n ≤ maxLen ∧ (a = none → l = []) ∧ (∀ q, a = some q → ∀ (i : Nat) x, l[i]? = some x → W.cell? (q.add i) = some (strV x)) ∧ (∀ x ∈ l, x.length ≤ Go.Proofs.YtnehccnhabcdoaaGreatDoor.Rows.uptoBulk d) := by
  obtain ⟨a1, len1, cap1, rfl⟩ := okWide_slice Tryz.underlying22 hval
  obtain ⟨n, hn⟩ := h
  have lc : Tryz.prog.cellsOf 9 = 1 := by kernel_rfl
  rcases DataW.trod_slice Tryz.underlying22 hn with ⟨h1, _⟩ | ⟨a, len, cap, elems, rest, m, rfl, h1, hx, _, h3, h4, h5, h6, _, _⟩
  · simp [Value.cells] at h1
    obtain ⟨rfl, rfl, rfl⟩ := h1
    exact ⟨none, 0, 0, [], rfl, rfl, Nat.zero_le _, fun _ => rfl, fun q hq => (by cases hq), fun x hx => (by cases hx)⟩
  · simp [Value.cells] at h1
    obtain ⟨rfl, rfl, rfl⟩ := h1
    have key : ∀ i (hi : i < elems.length), ∃ s : ByteArray, W.cell? (a.add i) = some (.string s) ∧ (elems[i]'hi).1 = .lit (.string s.data.toList) := by
      intro i hi
      have := h6 i (by omega)
      rw [List.getElem?_eq_getElem hi, lc, Nat.mul_one] at this
      obtain ⟨cs, hc, ht⟩ := Option.bind_eq_some_iff.1 this
      obtain ⟨s, rfl, hs, _⟩ := DataW.trod_string Tryz.underlying9 ht
      exact ⟨s, by have := (World.cells?_some hc).2.2 0 (by omega); simpa [Addr.add] using this, by rw [hs]⟩
    let f : DataW H × List MemPlace → Nm := fun x => match x.1 with | .lit (.string b) => b | _ => []
    refine ⟨some a, len1, cap1, elems.map f, rfl, by simpa using h5, by omega, fun hq => (by cases hq), ?_, ?_⟩
    · rintro q hq i x hx'
      cases hq
      rw [List.getElem?_map, Option.map_eq_some_iff] at hx'
      obtain ⟨e, he, rfl⟩ := hx'
      obtain ⟨hi, rfl⟩ := List.getElem?_eq_some_iff.1 he
      obtain ⟨s, hc, hs⟩ := key i hi
      rw [hc]
      simp only [f, hs, strV, strOf_data]
    · intro x hx'
      obtain ⟨e, he, rfl⟩ := List.mem_map.1 hx'
      obtain ⟨i, hi, rfl⟩ := List.getElem_of_mem he
      obtain ⟨s, hc, hs⟩ := key i hi
      have h7 := Go.Proofs.YtnehccnhabcdoaaGreatDoor.bulks.part_le (List.mem_map_of_mem (f := (·.1)) he)
      have e1 : d = .slice (elems.map (·.1)) (rest.map (·.1)) := (Prod.mk.inj hx).1
      have e2 : f elems[i] = s.data.toList := by simp only [f, hs]
      rw [e2, e1]
      rw [hs] at h7
      simp only [Go.Proofs.YtnehccnhabcdoaaGreatDoor.Rows.uptoBulk] at h7 ⊢
      omega
end
end SL
namespace Go.Proofs.YtnehccnhabcdoaaGreatDoor.shelfApart
open Go.ChangeShapes Go.WideShapes Go.ChangeAt Go.RowKit
theorem own : ownKnob Tryz.prog.godebug = none := by kernel_rfl
theorem laid : laidOutB Tryz.prog = true := by kernel_rfl
theorem contract (H : Type) (enc : TypeId × Value → H) (W : World) (base : Nat) (args : Array Value) (ds gs : List (DataW H)) (before : List MemPlace)
    (hval : ∀ (j : Nat) t v, Tryz.f3.params[j]? = some t → args[j]? = some v → Value.okWide Tryz.prog W .any base t v)
    (hW : DataW.Whole enc Tryz.prog Tryz.f3.params.toList Rows.shelfApartSpec.vars false W args.toList ds gs before) (hk : Rows.uptoSmall H (ds ++ gs) = true) (hL : laidMetH Tryz.prog Rows.shelfApartUptoRow.laid W) :
    Calls Tryz.prog 3 args W fun e W' => ∃ v, e = .returned v ∧ Rows.shelfApartSpec.post enc Tryz.prog Tryz.f3 false true false false W args v W' := by
  have hW' := hW
  obtain ⟨p, q, hA0, hV, rfl, hfz, hnd⟩ := hW
  have hA : DataW.TrodAll enc Tryz.prog W 0 (fun _ => true) true Tryz.f3.params.toList args.toList ds p := hA0
  rw [Tryz.params3] at hA hval
  obtain ⟨v0, vs0, d0, ds0, p0, q0, hargs, rfl, rfl, h0, r0⟩ := trodAll_cons hA
  obtain ⟨v1, vs1, d1, ds1, p1, q1, rfl, rfl, rfl, h1, r1⟩ := trodAll_cons r0
  obtain ⟨rfl, rfl, rfl⟩ := trodAll_nil r1
  obtain rfl : args = #[v0, v1] := by cases args; simp_all
  obtain ⟨rfl, rfl⟩ := trodVars_none hV
  refine SL.law_calls (ds := [d0, d1]) (gs := []) laid (by kernel_rfl) rfl rfl rfl (by kernel_rfl) hW' ?_
  obtain ⟨a, n, cap, l, rfl, hn, hnm, ha, hr, hl⟩ := SL.names_in (hval 0 22 v0 rfl rfl) h0
  obtain ⟨m, hm⟩ := h1
  obtain ⟨s, hs, hd, _⟩ := DataW.trod_string Tryz.underlying9 hm
  have hv1 : v1 = SL.strV s.data.toList := by
    have hv := hval 1 9 v1 rfl rfl
    obtain ⟨s', rfl⟩ := okWide_string Tryz.underlying9 hv
    simp [Value.cells] at hs
    rw [hs, SL.strV, SL.strOf_data]
  subst hv1
  have hb := bulks.bound hk
  have hd1 : d1 = .lit (.string s.data.toList) := (Prod.mk.inj hd).1
  subst hd1
  simp only [List.cons_append, List.nil_append, List.append_nil, Rows.uptoBulkAll, Rows.uptoBulk] at hb
  refine SL.law_spec W (SL.forms_in hL) a n cap l s.data.toList hn (Nat.lt_of_le_of_lt hnm (by decide)) ha hr (fun x hx => by have := hl x hx; omega) (by omega)
noncomputable def laidWorld (os : Os) : World :=
  { World.holding Tryz.prog os ⟨#[], #[], []⟩ with heap := (World.holding Tryz.prog os ⟨#[], #[], []⟩).heap.modify 1 fun
      | .cells _ t frozen => .cells #[.int .i32 127, .int .u8 0, .int .u64 7, .int .i32 2047, .int .u8 192, .int .u64 5, .int .i32 65535, .int .u8 224, .int .u64 4, .int .i32 1114111, .int .u8 240, .int .u64 3] t frozen
      | o => o }
theorem laid_met (os : Os) : laidMet Tryz.prog Rows.shelfApartUptoRow.laid ((laidWorld os).forCall (fun _ _ => 0) ⟨#[], #[.slice none 0 0, .string ByteArray.empty], []⟩).memory :=
  laidMet_of_run' 8 (by kernel_rfl) (by kernel_rfl)
theorem reads (os : Os) {H : Type} (enc : TypeId × Value → H) : ∃ places, DataW.whole enc Tryz.prog ((laidWorld os).forCall (fun _ _ => 0) ⟨#[], #[.slice none 0 0, .string ByteArray.empty], []⟩).memory Tryz.f3.params.toList Rows.shelfApartSpec.vars false #[Value.slice none 0 0, Value.string ByteArray.empty].toList 8 = some ([.nil, .lit (.string [])], [], places) :=
  ⟨[], by kernel_rfl⟩
set_option maxRecDepth 100000 in
theorem liftedUpto (os : Os) (started : os.Started) (H : Type) (enc : TypeId × Value → H) (F : Stop.Interp) :
    ReturnsInHanded {} Tryz.checked os 3 .any ((Rows.OpenSpec.upto Rows.shelfApartSpec).preRow enc Tryz.prog Tryz.f3 Rows.shelfApartUptoRow.domain false Rows.shelfApartUptoRow.laid) (((Rows.OpenSpec.upto Rows.shelfApartSpec).at F).post enc Tryz.prog Tryz.f3 false true false false) := by
  obtain ⟨places, hx⟩ := reads os enc
  refine returnsInHanded_of_row (C := Tryz.checked) (s := Rows.OpenSpec.upto Rows.shelfApartSpec) own started (by kernel_rfl) Tryz.func3
    (witness_row_at (enc := enc) (C := Tryz.checked) false (laidWorld os) #[.slice none 0 0, .string ByteArray.empty] rfl (by kernel_rfl) (by kernel_rfl) (by kernel_rfl)
      (OpenSpec.preRow_of_cond 8 hx (by kernel_rfl) (fun k hk => by cases hk; kernel_rfl) (by kernel_rfl) (laid_met os))) ?_
  intro W base args ds gs before hval hW _ hcond _ hL _ _
  exact contract H enc W base args ds gs before hval hW (hcond _ rfl) hL
theorem saidUpto : Rows.ShelfApartUptoSaid :=
  OpenClaim.holds_of_cond 3 Tryz.f3 rfl rfl rfl rfl rfl rfl rfl ⟨rfl, rfl, rfl, rfl, rfl⟩ rfl rfl rfl rfl rfl (by kernel_rfl) Tryz.func3 (by kernel_rfl)
    (of_decide_eq_true (by kernel_rfl)) (by unfold Func.isWrapper; first | (rw [if_pos (by decide +kernel)]; kernel_rfl) | (rw [if_neg (by decide +kernel)]; exact ⟨rfl, rfl⟩))
    (fun os started H enc _ F => by rw [OpenClaim.pre_eq_preRow]; exact liftedUpto os started H enc F)
theorem plain (f : FuncId) (fn : Func) (hf : Tryz.pinned.checked.prog.funcNamed "copybook/copybooklaw14.ShelfApart" = some f) (hfn : Tryz.pinned.checked.prog.funcs[f]? = some fn) :
    true = Tryz.pinned.checked.prog.looks [] ∧ ∀ (j : Nat) t, fn.params[j]? = some t → Tryz.pinned.checked.prog.wantsStandIn t = false := by
  obtain rfl : f = 3 := Option.some.inj ((show Tryz.prog.funcNamed "copybook/copybooklaw14.ShelfApart" = some 3 by kernel_rfl).symm.trans hf) |>.symm
  obtain rfl : fn = Tryz.f3 := (Option.some.inj (Tryz.func3.symm.trans hfn)).symm
  refine ⟨by kernel_rfl, fun j t ht => ?_⟩
  rw [Tryz.params3] at ht
  have hm : t = 22 ∨ t = 9 := by simpa using Array.mem_of_getElem? ht
  rcases hm with rfl | rfl
  · exact (show Tryz.prog.wantsStandIn 22 = false by kernel_rfl)
  · exact (show Tryz.prog.wantsStandIn 9 = false by kernel_rfl)
theorem cardUpto : Rows.ShelfApartUptoCardSaid :=
  Claim7.holds_tied_plain_at .later [] _ _ _ _ saidUpto (fun _ h => by cases h) (by kernel_rfl) (fun _ h => by cases h) shelfApartUpto_row_tie rfl ⟨rfl, rfl⟩ (by kernel_rfl) rfl plain (by kernel_rfl)
end Go.Proofs.YtnehccnhabcdoaaGreatDoor.shelfApart
end
