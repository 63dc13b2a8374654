/-
  Calls that came in.
-/
import Derived.Test.YtmnolaklpihmnaaOn11
set_option linter.unusedVariables false
set_option linter.unusedSimpArgs false
set_option maxRecDepth 10000
namespace SL
open Go Go.Proofs Go.RowKit
structure OA where
  what : Int
  cl : Int
  req : Nat
  a : Option Addr
  cap : Nat
  bs : List UInt8
def oaC (A : OA) : List Value := [.int .i64 A.what, .int .u32 A.cl, .int .u64 A.req, .slice A.a A.bs.length A.cap]
structure OAOk (W : World) (A : OA) : Prop where
  le : A.bs.length ≤ A.cap
  max : A.cap ≤ 9223372036854775807
  cl : 0 ≤ A.cl ∧ A.cl ≤ 4294967295
  req : A.req < 18446744073709551616
  rd : RdB (SL.orig W) A.a A.bs
theorem lit_u32 {n : Int} (h : (Lit.int .u32 n).wf = true) : 0 ≤ n ∧ n ≤ 4294967295 := by
  simpa [Lit.wf, IntKind.min, IntKind.max, IntKind.signed, IntKind.bits] using h
theorem lit_u64 {n : Int} (h : (Lit.int .u64 n).wf = true) : 0 ≤ n ∧ n ≤ 18446744073709551615 := by
  simpa [Lit.wf, IntKind.min, IntKind.max, IntKind.signed, IntKind.bits] using h
theorem lit_u16 {n : Int} (h : (Lit.int .u16 n).wf = true) : 0 ≤ n ∧ n ≤ 65535 := by
  simpa [Lit.wf, IntKind.min, IntKind.max, IntKind.signed, IntKind.bits] using h
theorem lit_u8 {n : Int} (h : (Lit.int .u8 n).wf = true) : 0 ≤ n ∧ n ≤ 255 := by
  simpa [Lit.wf, IntKind.min, IntKind.max, IntKind.signed, IntKind.bits] using h
theorem oa_of {W : World} {cs : List Value} (h : Rdb Try.prog W 31 cs) : ∃ A : OA, cs = oaC A ∧ OAOk W A := by
  obtain ⟨hl, hf⟩ := h.struct Try.underlying31
  simp only [List.mem_cons, List.not_mem_nil, or_false, forall_eq_or_imp, forall_eq] at hf
  obtain ⟨h0, h1, h2, h3⟩ := hf
  have lO : Try.prog.cellsOf 31 = 4 := by kernel_rfl
  have l3 : Try.prog.cellsOf 3 = 1 := by kernel_rfl
  have l4 : Try.prog.cellsOf 27 = 1 := by kernel_rfl
  have l5 : Try.prog.cellsOf 28 = 1 := by kernel_rfl
  have l6 : Try.prog.cellsOf 29 = 1 := by kernel_rfl
  rw [lO] at hl
  match cs, hl with
  | [x, y, z, s], _ =>
    simp only [l3, l4, l5, l6] at h0 h1 h2 h3
    obtain ⟨n0, e0, _⟩ := h0.int Try.underlying3
    obtain ⟨n1, e1, w1⟩ := h1.int Try.underlying27
    obtain ⟨n2, e2, w2⟩ := h2.int Try.underlying28
    obtain ⟨a, cap, bs, e3, q1, q2, q3, q4⟩ := h3.bytes Try.underlying29 Try.underlying5 (by kernel_rfl)
    have w1 := lit_u32 w1
    have w2 := lit_u64 w2
    obtain ⟨m, rfl⟩ : ∃ m : Nat, n2 = (m : Int) := ⟨n2.toNat, by omega⟩
    simp only [List.drop_zero, List.take_succ_cons, List.take_zero, List.drop_succ_cons, List.cons.injEq, and_true] at e0 e1 e2 e3
    refine ⟨⟨n0, n1, m, a, cap, bs⟩, by simp [oaC, e0, e1, e2, e3], ⟨q1, Nat.le_trans q2 (by decide +kernel), w1, by simp only; omega, RdB.orig q3 q4⟩⟩
abbrev OK2 := Int × Int
def okC (m : OK2) : List Value := [.int .u32 m.1, .int .u64 m.2]
def okV (m : OK2) : Value := .agg (okC m).toArray
instance keyOk2 : TKy Try.prog 39 OK2 okV := TKy.flat okC (fun a b => rfl) (fun a b => by
  obtain ⟨a1, a2⟩ := a
  obtain ⟨b1, b2⟩ := b
  simp [okC, eqCells, cellEq]) (fun k => by simp [okC, Instr.sameBits])
end SL
