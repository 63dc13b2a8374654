/-
  Chapter 29: NetFlips: the two cases, and the given statement.
-/
import Derived.Test.YtidogcbcknpdiaaNet9
import Derived.Test.YtidogcbcknpdiaaRows
set_option linter.unusedVariables false
set_option linter.unusedSimpArgs false
set_option maxRecDepth 10000
namespace SL
open Go Go.Proofs Go.RowKit

theorem flipB_flipB (b : UInt8) (r : Nat) : flipB (flipB b r) r = b := by unfold flipB; rw [UInt8.xor_assoc]; simp
theorem flip_xor (b : UInt8) (r : Nat) : flipB b r ^^^ b = UInt8.ofNat (2 ^ r) := by
  unfold flipB
  rw [UInt8.xor_comm b, UInt8.xor_assoc]; simp
theorem pow_u8 {r : Nat} (h : r < 8) : UInt8.ofNat (2 ^ r) &&& (UInt8.ofNat (2 ^ r) - 1) = 0 ∧ UInt8.ofNat (2 ^ r) ≠ 0 := by
  have : r = 0 ∨ r = 1 ∨ r = 2 ∨ r = 3 ∨ r = 4 ∨ r = 5 ∨ r = 6 ∨ r = 7 := by omega
  rcases this with rfl | rfl | rfl | rfl | rfl | rfl | rfl | rfl <;> decide
theorem flipF_flipF (bs : List UInt8) (q : Nat) (h : q / 8 < bs.length) : flipF (flipF (frameF bs) q) q = frameF bs := by
  unfold flipF frameF
  simp only [List.getD_eq_getElem?_getD, List.length_set, List.getElem?_set_self h, List.getElem?_eq_getElem h, Option.getD_some, flipB_flipB, List.set_set, List.set_getElem_self]

theorem flips_spec (W : World) (a : Option Addr) (cap : Nat) (bs0 : List UInt8) (bit : Int) (hc : bs0.length ≤ cap) (h0 : a = none → bs0 = []) (hcell : ∀ q, a = some q → ∀ j x, bs0[j]? = some x → W.cell? (q.add j) = some (byteV x))
    (hbit : -9223372036854775808 ≤ bit ∧ bit ≤ 9223372036854775807) :
    Spec Try.prog 4 [.slice a bs0.length cap, .int .i64 bit] [orig W] (fun r L => r = .bool true ∧ L = [orig W]) := by
  have hl : (bs0.take 60).length = min 60 bs0.length := List.length_take ..
  have hX := Rd.came (m := 60) (cap := cap) h0 hcell
  have hcell' : ∀ q, a = some q → ∀ j x, (bs0.take 60)[j]? = some x → W.cell? (q.add j) = some (byteV x) := by
    intro q hq j x hx
    refine hcell q hq j x ?_
    by_cases hj : j < 60
    · rwa [List.getElem?_take_of_lt hj] at hx
    · rw [List.getElem?_eq_none (by simp; omega)] at hx; cases hx
  have ha : (bs0.take 60).length ≠ 0 → ∃ q, a = some q := by
    intro h
    cases a with
    | none => rw [h0 rfl] at h; simp at h
    | some q => exact ⟨q, rfl⟩
  generalize hbs : bs0.take 60 = bs at hl hX hcell' ha
  have hf (bs' : List UInt8) (hb' : bs'.length = bs.length) (nb : Nat) := flip_spec nb 0 bit [frameF bs', frameF bs] (by intro f hf; simp only [List.mem_cons, List.not_mem_nil, or_false] at hf; rcases hf with rfl | rfl; (show bs'.length ≤ _; omega); (show bs.length ≤ _; omega)) hbit
  by_cases hin : 0 ≤ bit ∧ bit / 8 < bs.length
  · obtain ⟨q, rfl⟩ := Int.eq_ofNat_of_zero_le hin.1
    have hq : q / 8 < bs.length := by omega
    have hgl : (flipF (frameF bs) q).bs.length = bs.length := by simp [flipF, frameF]
    have hg : flipF (frameF bs) q = frameF (flipF (frameF bs) q).bs := rfl
    have hgb : (flipF (frameF bs) q).bs = bs.set (q / 8) (flipB bs[q / 8] (q % 8)) := by
      simp [flipF, frameF, List.getD_eq_getElem?_getD, List.getElem?_eq_getElem hq]
    refine flips_core W a cap bs0.length bs q (flipF (frameF bs) q) 0 0 true (fun i => if q / 8 < i then 1 else 0) (Lib.hid (by omega)) hc (by omega) (by omega) (Lib.hid hgl) hX ha (Lib.hid hcell')
      (Lib.hid fun _ => by simp; omega) (Lib.hid fun h => by omega) (by simp) (by simp) (fun nb => ?_) (fun nb => ?_) ?_ (Lib.hid (by simp)) (Lib.hid (by simp [hq])) ?_ (Lib.hid ?_)
    · have := hf bs rfl nb
      have e1 : flipC [frameF bs, frameF bs] 0 q = 0 := by simp [flipC, frameF]; omega
      have e2 : flipL [frameF bs, frameF bs] 0 q = [flipF (frameF bs) q, frameF bs] := by simp [flipL, frameF, flipF]; omega
      rw [e1, e2] at this
      exact this
    · have := hf _ hgl nb
      rw [← hg] at this
      have e1 : flipC [flipF (frameF bs) q, frameF bs] 0 q = 0 := by simp [flipC, hgl]; omega
      have e2 : flipL [flipF (frameF bs) q, frameF bs] 0 q = [frameF bs, frameF bs] := by
        have hx : (0 : Int) ≤ q ∧ (q : Int) / 8 < ((flipF (frameF bs) q).bs.length : Int) := by rw [hgl]; omega
        simp only [flipL, List.length_cons, List.length_nil, Int.toNat_zero, List.getElem?_cons_zero, List.set_cons_zero, Int.toNat_natCast, flipF_flipF bs q hq, if_pos hx]
        simp
      rw [e1, e2] at this
      exact this
    · have : (flipF (frameF bs) q).bs ≠ bs := by
        intro e
        rw [hgb] at e
        have e3 := congrArg (fun l => l[q / 8]?) e
        simp only [List.getElem?_set_self hq, List.getElem?_eq_getElem hq, Option.some.injEq] at e3
        have e4 := flip_xor bs[q / 8] (q % 8)
        rw [e3] at e4
        simp at e4
        exact (pow_u8 (r := q % 8) (by omega)).2 e4.symm
      simp [this]
    · intro i; split <;> omega
    · intro i h h'
      have e : (flipF (frameF bs) q).bs[i] ^^^ bs[i] = if q / 8 = i then UInt8.ofNat (2 ^ (q % 8)) else 0 := by
        simp only [hgb, List.getElem_set]
        split
        · rename_i e; subst e; exact flip_xor _ _
        · simp
      rw [e]
      have hp := pow_u8 (r := q % 8) (by omega)
      by_cases e2 : q / 8 = i
      · simp only [e2, if_true]
        refine ⟨hp.1, ?_⟩
        rw [if_neg hp.2]
        simp
      · simp only [e2, if_false]
        refine ⟨by decide, ?_⟩
        simp
        by_cases h1 : q / 8 < i
        · rw [if_pos h1, if_pos (by omega)]
        · rw [if_neg h1, if_neg (by omega)]
  · have hin' : ¬ (0 ≤ bit ∧ bit / 8 < (frameF bs).bs.length) := hin
    have h1 : ∀ nb, Spec Try.prog 16 [.pointer (some ⟨nb, 0, none⟩), .int .i64 0, .int .i64 bit] [NetAt nb [frameF bs, frameF bs]] (fun r L => r = .int .i64 1 ∧ L = [NetAt nb [frameF bs, frameF bs]]) := by
      intro nb
      have := hf bs rfl nb
      have e1 : flipC [frameF bs, frameF bs] 0 bit = 1 := by
        simp only [flipC, List.length_cons, List.length_nil, Int.toNat_zero, List.getElem?_cons_zero, if_neg hin']
        simp
      have e2 : flipL [frameF bs, frameF bs] 0 bit = [frameF bs, frameF bs] := by
        simp only [flipL, List.length_cons, List.length_nil, Int.toNat_zero, List.getElem?_cons_zero, if_neg hin']
        simp
      rw [e1, e2] at this
      exact this
    exact flips_core W a cap bs0.length bs bit (frameF bs) 1 1 false (fun i => 0) (Lib.hid (by omega)) hc (by omega) (by omega) (Lib.hid rfl) hX ha (Lib.hid hcell')
      (Lib.hid fun _ => by simp; omega) (Lib.hid fun h => rfl) (by simp) (by simp) h1 h1 (by simp [frameF]) (Lib.hid rfl) (Lib.hid (by simp)) (by omega) (Lib.hid (by intro i h h'; simp [frameF]))
end SL

namespace Go.Proofs.Ytidogcbcknpdiaa.netFlips
open Go.ChangeShapes Go.WideShapes Go.ChangeAt Go.RowKit

theorem own : ownKnob Try.prog.godebug = none := by kernel_rfl
theorem laid : laidOutB Try.prog = true := by kernel_rfl

theorem contract (H : Type) (enc : TypeId × Value → H) (W : World) (base : Nat) (args : Array Value) (ds gs : List (DataW H)) (before : List MemPlace)
    (hval : ∀ (j : Nat) t v, Try.f4.params[j]? = some t → args[j]? = some v → Value.okWide Try.prog W .any base t v)
    (hW : DataW.Whole enc Try.prog Try.f4.params.toList Rows.netFlipsSpec.vars false W args.toList ds gs before) :
    Calls Try.prog 4 args W fun e W' => ∃ v, e = .returned v ∧ Rows.netFlipsSpec.post enc Try.prog Try.f4 false true false false W args v W' := by
  have hW' := hW
  obtain ⟨p, q, hA0, hV, rfl, hfz, hnd⟩ := hW
  have hA : DataW.TrodAll enc Try.prog W 0 (fun _ => true) true Try.f4.params.toList args.toList ds p := hA0
  rw [Try.params4] at hA hval
  obtain ⟨v0, vs0, d0, ds0, p0, q0, hargs, rfl, rfl, h0, r0⟩ := trodAll_cons hA
  obtain ⟨v1, vs1, d1, ds1, p1, q1, rfl, rfl, rfl, h1, r1⟩ := trodAll_cons r0
  obtain ⟨rfl, rfl, rfl⟩ := trodAll_nil r1
  obtain rfl : args = #[v0, v1] := by cases args; simp_all
  obtain ⟨rfl, rfl⟩ := trodVars_none hV
  refine SL.law_calls (ds := [d0, d1]) (gs := []) laid (by kernel_rfl) rfl rfl rfl (by kernel_rfl) hW' ?_
  obtain ⟨a, cap, bs, rfl, hc, _, hn, hcell⟩ := SL.bytes_in Try.underlying29 Try.underlying5 (by kernel_rfl) (hval 0 29 v0 rfl rfl) h0
  obtain ⟨bit, rfl, _, _, hb⟩ := open_int Try.underlying3 (hval 1 3 v1 rfl rfl) h1
  exact SL.flips_spec W a cap bs bit hc hn hcell (by simpa [Lit.wf, IntKind.min, IntKind.max, IntKind.signed, IntKind.bits] using hb)

set_option maxRecDepth 100000 in
theorem lifted (os : Os) (started : os.Started) (H : Type) (enc : TypeId × Value → H) :
    ReturnsInHanded {} Try.checked os 4 .any (Rows.netFlipsSpec.pre6 enc Try.prog Try.f4 [] false) (Rows.netFlipsSpec.post enc Try.prog Try.f4 false true false false) := by
  refine returnsInHanded_of_change own started (by kernel_rfl) Try.func4
    (ChangeSpec.witness6 false ⟨#[], #[.slice none 0 0, .int .i64 0], []⟩ 8 (by kernel_rfl) (by kernel_rfl) (by kernel_rfl) (by kernel_rfl)) ?_
  intro W base args ds gs before hval hW _ _
  exact contract H enc W base args ds gs before hval hW

theorem proved : Rows.NetFlipsSaid :=
  OpenClaim.holds_of_wide 4 Try.f4 rfl rfl rfl rfl rfl rfl rfl ⟨rfl, rfl, rfl, rfl, rfl⟩ rfl rfl rfl rfl rfl (by kernel_rfl) Try.func4 (by kernel_rfl)
    (of_decide_eq_true (by kernel_rfl)) (by unfold Func.isWrapper; first | (rw [if_pos (by decide +kernel)]; kernel_rfl) | (rw [if_neg (by decide +kernel)]; exact ⟨rfl, rfl⟩))
    (fun os started H enc _ => lifted os started H enc)
end Go.Proofs.Ytidogcbcknpdiaa.netFlips
