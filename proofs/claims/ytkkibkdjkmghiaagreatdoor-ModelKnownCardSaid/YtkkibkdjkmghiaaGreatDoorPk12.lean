/-
  ModelKnown: the chapter's rows, none; a document's text (a closed statement): true. Conditions: the table utf.forms holds what the program's text lays (the card ties it); store.does may hold anything (its value is never read here).
-/
import Derived.Test.YtkkibkdjkmghiaaGreatDoorPk11
import Derived.Test.YtkkibkdjkmghiaaGreatDoorCards
import Derived.Test.YtkkibkdjkmghiaaGreatDoorTie
import Derived.Deep.DeepHandedRow
import Derived.Lib.LaidTab
section
set_option linter.unusedVariables false
set_option linter.unusedSimpArgs false
set_option maxRecDepth 10000
namespace SL
open Go Go.Proofs Go.ChangeShapes Go.WideShapes Go.ChangeAt Go.RowKit
section
variable {H : Type} {enc : TypeId × Value → H} {W : World}
theorem form_cells {sp : Nat → Bool} {held : Bool} {n : Nat} {cs : List Value} {a b c : Int} {p : List MemPlace}
    (h : DataW.trod enc Tryz.prog W 0 sp held n 250 cs = some (.agg [.lit (.int .i32 a), .lit (.int .u8 b), .lit (.int .u64 c)], p)) : cs = [.int .i32 a, .int .u8 b, .int .u64 c] := by
  obtain ⟨xs, m, rfl, hx, hl, hn, hi⟩ := DataW.trod_struct Tryz.underlying250 h
  have lf : Tryz.prog.cellsOf 250 = 3 := by kernel_rfl
  have l0 : Tryz.prog.cellsOf 161 = 1 := by kernel_rfl
  have l1 : Tryz.prog.cellsOf 5 = 1 := by kernel_rfl
  have l2 : Tryz.prog.cellsOf 154 = 1 := by kernel_rfl
  rw [lf] at hl
  have e := (Prod.mk.inj hx).1
  simp only [DataW.agg.injEq] at e
  match cs, hl, xs, hn with
  | [x, y, z], _, [u, v, w], _ =>
    have h0 : DataW.trod enc Tryz.prog W 0 sp held m 161 [x] = some u := by have := hi 0 _ rfl; simpa [l0] using this
    have h1 : DataW.trod enc Tryz.prog W 0 sp held m 5 [y] = some v := by have := hi 1 _ rfl; simpa [l1] using this
    have h2 : DataW.trod enc Tryz.prog W 0 sp held m 154 [z] = some w := by have := hi 2 _ rfl; simpa [l2] using this
    obtain ⟨n0, e0, d0, _⟩ := DataW.trod_int (k := .i32) (by kernel_rfl) h0
    obtain ⟨n1, e1, d1, _⟩ := DataW.trod_int (k := .u8) (by kernel_rfl) h1
    obtain ⟨n2, e2, d2, _⟩ := DataW.trod_int (k := .u64) (by kernel_rfl) h2
    simp at e0 e1 e2
    subst e0 e1 e2 d0 d1 d2
    simp at e
    obtain ⟨rfl, rfl, rfl⟩ := e
    rfl
theorem gForms : Tryz.prog.globalNamed "copybook/utf.forms" = some 1 := by kernel_rfl
theorem gFormsT : (Tryz.prog.globals[1]?).map (·.type) = some 251 := by kernel_rfl
theorem forms_in (h : laidMetH Tryz.prog Go.Proofs.YtkkibkdjkmghiaaGreatDoor.Rows.modelKnownRow.laid W) : FormsIn (SL.orig W) := by
  have h' : laidMet Tryz.prog [("copybook/utf.forms", Go.Proofs.YtkkibkdjkmghiaaGreatDoor.Rows.laid_copybook_utf_forms)] W := h
  obtain ⟨ps, ⟨g, t, cs, fuel, p, q, hg, ht, hvar, hd, _, _⟩, _⟩ := h'
  obtain rfl := Option.some.inj (gForms.symm.trans hg)
  obtain rfl := Option.some.inj (gFormsT.symm.trans ht)
  obtain ⟨xs, m, rfl, hx, hl, hn, hi⟩ := DataW.trod_array Tryz.underlying251 hd
  have lf : Tryz.prog.cellsOf 250 = 3 := by kernel_rfl
  have la : Tryz.prog.cellsOf 251 = 12 := by kernel_rfl
  rw [la] at hl
  simp only [lf] at hi
  have e := (Prod.mk.inj hx).1
  simp only [Go.Proofs.YtkkibkdjkmghiaaGreatDoor.Rows.laid_copybook_utf_forms, DataW.agg.injEq] at e
  have hcs : cs.toList = fmC := by
    match xs, hn with
    | [u0, u1, u2, u3], _ =>
      obtain ⟨u0, v0⟩ := u0
      obtain ⟨u1, v1⟩ := u1
      obtain ⟨u2, v2⟩ := u2
      obtain ⟨u3, v3⟩ := u3
      simp at e
      obtain ⟨rfl, rfl, rfl, rfl⟩ := e
      have h0 := form_cells (hi 0 (by omega))
      have h1 := form_cells (hi 1 (by omega))
      have h2 := form_cells (hi 2 (by omega))
      have h3 := form_cells (hi 3 (by omega))
      obtain ⟨l, hL⟩ : ∃ l, cs.toList = l := ⟨_, rfl⟩
      rw [hL] at h0 h1 h2 h3 hl ⊢
      match l, hl with
      | [a0, a1, a2, b0, b1, b2, c0, c1, c2, d0, d1, d2], _ =>
        simp at h0 h1 h2 h3
        obtain ⟨rfl, rfl, rfl⟩ := h0
        obtain ⟨rfl, rfl, rfl⟩ := h1
        obtain ⟨rfl, rfl, rfl⟩ := h2
        obtain ⟨rfl, rfl, rfl⟩ := h3
        rfl
  refine RdA.orig (fun j v hj => ?_)
  have hc := Go.World.var?_cell gForms hvar j
  rw [show (⟨1, 0, none⟩ : Addr).add j = ⟨1, j, none⟩ by unfold Addr.add; split <;> simp_all, hc, ← hj, ← hcs]
  simp
end
end SL
namespace Go.Proofs.YtkkibkdjkmghiaaGreatDoor.modelKnown
open Go.ChangeShapes Go.WideShapes Go.ChangeAt Go.RowKit
theorem own : ownKnob Tryz.prog.godebug = none := by kernel_rfl
theorem laid : laidOutB Tryz.prog = true := by kernel_rfl
theorem contract (H : Type) (enc : TypeId × Value → H) (W : World) (base : Nat) (args : Array Value) (ds gs : List (DataW H)) (before : List MemPlace)
    (hval : ∀ (j : Nat) t v, Tryz.f3.params[j]? = some t → args[j]? = some v → Value.okWide Tryz.prog W .any base t v)
    (hW : DataW.Whole enc Tryz.prog Tryz.f3.params.toList Rows.modelKnownSpec.vars false W args.toList ds gs before) (hL : laidMetH Tryz.prog Rows.modelKnownRow.laid W) :
    Calls Tryz.prog 3 args W fun e W' => ∃ v, e = .returned v ∧ Rows.modelKnownSpec.post enc Tryz.prog Tryz.f3 false true false false W args v W' := by
  have hW' := hW
  obtain ⟨p, q, hA0, hV, rfl, hfz, hnd⟩ := hW
  have hA : DataW.TrodAll enc Tryz.prog W 0 (fun _ => true) true Tryz.f3.params.toList args.toList ds p := hA0
  rw [Tryz.params3] at hA hval
  obtain ⟨hargs, rfl, rfl⟩ := trodAll_nil hA
  obtain rfl : args = #[] := by cases args; simp_all
  obtain ⟨rfl, rfl⟩ := trodVars_none hV
  refine SL.law_calls (ds := []) (gs := []) laid (by kernel_rfl) rfl rfl rfl (by kernel_rfl) hW' ?_
  exact SL.known_spec (SL.forms_in hL)
noncomputable def laidWorld (os : Os) : World :=
  { World.holding Tryz.prog os ⟨#[], #[], []⟩ with heap := (World.holding Tryz.prog os ⟨#[], #[], []⟩).heap.modify 1 fun
      | .cells _ t frozen => .cells #[.int .i32 127, .int .u8 0, .int .u64 7, .int .i32 2047, .int .u8 192, .int .u64 5, .int .i32 65535, .int .u8 224, .int .u64 4, .int .i32 1114111, .int .u8 240, .int .u64 3] t frozen
      | o => o }
theorem laid_met (os : Os) : laidMet Tryz.prog Rows.modelKnownRow.laid ((laidWorld os).forCall (fun _ _ => 0) ⟨#[], #[], []⟩).memory :=
  laidMet_of_run' 8 (by kernel_rfl) (by kernel_rfl)
theorem reads (os : Os) {H : Type} (enc : TypeId × Value → H) : ∃ places, DataW.whole enc Tryz.prog ((laidWorld os).forCall (fun _ _ => 0) ⟨#[], #[], []⟩).memory Tryz.f3.params.toList Rows.modelKnownSpec.vars false (#[] : Array Value).toList 8 = some ([], [], places) :=
  ⟨[], by kernel_rfl⟩
set_option maxRecDepth 100000 in
theorem lifted (os : Os) (started : os.Started) (H : Type) (enc : TypeId × Value → H) (F : Stop.Interp) :
    ReturnsInHanded {} Tryz.checked os 3 .any ((OpenSpec.ofChange Rows.modelKnownSpec).preRow enc Tryz.prog Tryz.f3 Rows.modelKnownRow.domain false Rows.modelKnownRow.laid) (((OpenSpec.ofChange Rows.modelKnownSpec).at F).post enc Tryz.prog Tryz.f3 false true false false) := by
  obtain ⟨places, hx⟩ := reads os enc
  refine returnsInHanded_of_row (C := Tryz.checked) (s := OpenSpec.ofChange Rows.modelKnownSpec) own started (by kernel_rfl) Tryz.func3
    (witness_row_at (enc := enc) (C := Tryz.checked) false (laidWorld os) #[] rfl (by kernel_rfl) (by kernel_rfl) (by kernel_rfl)
      (OpenSpec.preRow_of_cond 8 hx (by kernel_rfl) (fun k hk => by cases hk) (by kernel_rfl) (laid_met os))) ?_
  intro W base args ds gs before hval hW _ _ _ hL _ _
  exact contract H enc W base args ds gs before hval hW hL
theorem said : Rows.ModelKnownSaid :=
  OpenClaim.holds_of_cond 3 Tryz.f3 rfl rfl rfl rfl rfl rfl rfl ⟨rfl, rfl, rfl, rfl, rfl⟩ rfl rfl rfl rfl rfl (by kernel_rfl) Tryz.func3 (by kernel_rfl)
    (of_decide_eq_true (by kernel_rfl)) (by unfold Func.isWrapper; first | (rw [if_pos (by decide +kernel)]; kernel_rfl) | (rw [if_neg (by decide +kernel)]; exact ⟨rfl, rfl⟩))
    (fun os started H enc _ F => by rw [OpenClaim.pre_eq_preRow]; exact lifted os started H enc F)
theorem plain (f : FuncId) (fn : Func) (hf : Tryz.pinned.checked.prog.funcNamed "copybook/copybooklaw30.ModelKnown" = some f) (hfn : Tryz.pinned.checked.prog.funcs[f]? = some fn) :
    true = Tryz.pinned.checked.prog.looks [] ∧ ∀ (j : Nat) t, fn.params[j]? = some t → Tryz.pinned.checked.prog.wantsStandIn t = false := by
  obtain rfl : f = 3 := Option.some.inj ((show Tryz.prog.funcNamed "copybook/copybooklaw30.ModelKnown" = some 3 by kernel_rfl).symm.trans hf) |>.symm
  obtain rfl : fn = Tryz.f3 := (Option.some.inj (Tryz.func3.symm.trans hfn)).symm
  refine ⟨by kernel_rfl, fun j t ht => ?_⟩
  rw [Tryz.params3] at ht
  simp at ht
theorem card : Rows.ModelKnownCardSaid :=
  Claim7.holds_tied_plain_at .later [] _ _ _ _ said (fun _ h => by cases h) (by kernel_rfl) (fun _ h => by cases h) modelKnown_row_tie rfl ⟨rfl, rfl⟩ (by kernel_rfl) rfl plain (by kernel_rfl)
end Go.Proofs.YtkkibkdjkmghiaaGreatDoor.modelKnown
end
