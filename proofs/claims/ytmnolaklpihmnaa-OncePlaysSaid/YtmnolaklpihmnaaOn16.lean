/-
  Parse of a table's bytes, in plain terms.
-/
import Derived.Test.YtmnolaklpihmnaaOn10
set_option linter.unusedVariables false
set_option linter.unusedSimpArgs false
set_option maxRecDepth 10000
namespace SL
open Go Go.Proofs Go.RowKit
theorem rNum_put {n : Nat} (h : n < 18446744073709551616) (r : List UInt8) : rNum (putN n ++ r, 0) = (n, (r, 0)) := by
  have hg := getN_put h r
  unfold rNum
  rw [if_pos rfl]
  simp only [hg, if_true]
  simp
theorem rNum_short {n k : Nat} (hk : k < (putN n).length) : rNum ((putN n).take k, 0) = (0, ((putN n).take k, 4)) := by
  have hg := getN_cut hk
  unfold rNum
  rw [if_pos rfl]
  simp [hg]
theorem rNum_err {s : RdS} (h : ¬ s.2 = 0) : rNum s = (0, s) := by unfold rNum; rw [if_neg h]
theorem rUpto_put {n most : Nat} (h : n < 18446744073709551616) (hm : n ≤ most) (r : List UInt8) : rUpto most (putN n ++ r, 0) = (n, (r, 0)) := by
  unfold rUpto
  rw [rNum_put h r]
  rw [if_neg (by simp only; omega)]
theorem rUpto_err {s : RdS} {most : Nat} (h : ¬ s.2 = 0) : rUpto most s = (0, s) := by
  unfold rUpto
  rw [rNum_err h]
  rw [if_neg (by simp)]
theorem rUpto_short {n k most : Nat} (hk : k < (putN n).length) : rUpto most ((putN n).take k, 0) = (0, ((putN n).take k, 4)) := by
  unfold rUpto
  rw [rNum_short hk]
  rw [if_neg (by simp)]
theorem rBytes_put {cs : List UInt8} {most : Nat} (h : cs.length < 18446744073709551616) (hm : cs.length ≤ most) (r : List UInt8) : rBytes most (putN cs.length ++ (cs ++ r), 0) = (cs, (r, 0)) := by
  unfold rBytes
  rw [rUpto_put h hm]
  simp
theorem rBytes_err {s : RdS} {most : Nat} (h : ¬ s.2 = 0) : rBytes most s = ([], s) := by
  unfold rBytes
  rw [rUpto_err h]
  simp only
  rw [if_neg h]
theorem q1_err {b : Int} {s : RdS} (h : ¬ s.2 = 0) : q1 b s = s := by
  rw [q1_eq, rUpto_err h]
  simp only
  rw [if_neg (fun c => h c.2)]
theorem rFail_err {e : Int} {s : RdS} (h : ¬ s.2 = 0) : rFail e s = s := by
  unfold rFail
  rw [if_neg h]
theorem q2_err {b : Int} {s : RdS} (h : ¬ s.2 = 0) : q2 b s = s := by
  rw [q2_eq, q1_err h, rNum_err h]
  simp only [if_true]
  exact rFail_err h
theorem parseGo_err : ∀ (f : Nat) (b : Int) (T : OT) (s : RdS), ¬ s.2 = 0 → (parseGo f b T s).2 = s
  | 0, b, T, s, h => rfl
  | f + 1, b, T, s, h => by
    simp only [parseGo]
    rw [q2_err h, rBytes_err h]
    exact parseGo_err f _ _ s h
theorem rEnd_err {s : RdS} (h : ¬ s.2 = 0) : rEnd s = s := by
  unfold rEnd
  rw [if_neg (fun c => h c.1)]
theorem oins_last {q : Int} {v : OV} : ∀ {T : OT}, (∀ p ∈ T, p.1 < q) → oins q v T = T ++ [(q, v)]
  | [], _ => rfl
  | p :: T, h => by
    simp only [oins]
    rw [if_pos (h p (List.mem_cons_self ..)), oins_last fun x hx => h x (List.mem_cons_of_mem _ hx)]
    rfl

structure Ent1 (p : Int × OV) : Prop where
  key : 0 ≤ p.1 ∧ p.1 ≤ 4294967295
  req : 1 ≤ p.2.1 ∧ p.2.1 < 18446744073709551616
  ans : p.2.2.length ≤ 1048576
/-- one entry is read -/
theorem step_ok {p : Int × OV} (hp : Ent1 p) {b : Int} (hb : b < p.1) (r : List UInt8) : (rUpto 4294967295 (tb1 p ++ r, 0)).1 = p.1.toNat ∧ (rNum (q1 b (tb1 p ++ r, 0))).1 = p.2.1 ∧ rBytes 1048576 (q2 b (tb1 p ++ r, 0)) = (p.2.2, (r, 0)) := by
  obtain ⟨⟨k1, k2⟩, ⟨r1, r2⟩, a1⟩ := hp
  have e : tb1 p ++ r = putN p.1.toNat ++ (putN p.2.1 ++ (putN p.2.2.length ++ (p.2.2 ++ r))) := by simp [tb1]
  have h1 := rUpto_put (n := p.1.toNat) (most := 4294967295) (by omega) (by omega) (putN p.2.1 ++ (putN p.2.2.length ++ (p.2.2 ++ r)))
  have hq1 : q1 b (tb1 p ++ r, 0) = (putN p.2.1 ++ (putN p.2.2.length ++ (p.2.2 ++ r)), 0) := by
    rw [q1_eq, e, h1]
    simp only
    rw [if_neg (by omega)]
  have h2 := rNum_put r2 (putN p.2.2.length ++ (p.2.2 ++ r))
  have hq2 : q2 b (tb1 p ++ r, 0) = (putN p.2.2.length ++ (p.2.2 ++ r), 0) := by
    rw [q2_eq, hq1, h2]
    simp only
    rw [if_neg (by omega)]
  refine ⟨by rw [e, h1], by rw [hq1, h2], ?_⟩
  rw [hq2]
  exact rBytes_put (by omega) a1 r
theorem parseGo_tbs : ∀ (T T0 : OT) (b : Int) (r : List UInt8), ORise T → (∀ p ∈ T, b < p.1 ∧ Ent1 p) → (∀ p ∈ T0, ∀ p' ∈ T, p.1 < p'.1) → parseGo T.length b T0 (T.flatMap tb1 ++ r, 0) = (T0 ++ T, (r, 0))
  | [], T0, b, r, _, _, _ => by simp [parseGo]
  | p :: T, T0, b, r, hr, ha, h0 => by
    have h' : (∀ x ∈ T.map (·.1), p.1 < x) ∧ ORise T := by simpa only [ORise, List.map_cons, List.pairwise_cons] using hr
    obtain ⟨hb, hp⟩ := ha p (List.mem_cons_self ..)
    have e : (p :: T).flatMap tb1 ++ r = tb1 p ++ (T.flatMap tb1 ++ r) := by simp
    obtain ⟨s1, s2, s3⟩ := step_ok hp hb (T.flatMap tb1 ++ r)
    have hk : ((p.1.toNat : Nat) : Int) = p.1 := by have := hp.key; omega
    rw [e, List.length_cons]
    simp only [parseGo]
    rw [s1, s2, s3, hk]
    simp only
    rw [oins_last fun x hx => h0 x hx p (List.mem_cons_self ..)]
    have := parseGo_tbs T (T0 ++ [(p.1, (p.2.1, p.2.2))]) p.1 r h'.2 (fun x hx => ⟨h'.1 x.1 (List.mem_map.2 ⟨x, hx, rfl⟩), (ha x (List.mem_cons_of_mem _ hx)).2⟩) (fun x hx y hy => by
      rcases List.mem_append.1 hx with hx | hx
      · exact h0 x hx y (List.mem_cons_of_mem _ hy)
      · simp at hx
        subst hx
        exact h'.1 y.1 (List.mem_map.2 ⟨y, hy, rfl⟩))
    rw [this]
    simp
def TEnt (T : OT) : Prop := ∀ p ∈ T, Ent1 p
theorem parse_tbs {T : OT} (hT : TOk T) (hE : TEnt T) : parseT (tbs T) = (some T, 0) := by
  have hl := hT.len
  have h1 := rUpto_put (n := T.length) (most := 16) (by omega) hl (T.flatMap tb1)
  have h2 := parseGo_tbs T [] (-1) [] hT.rise (fun p hp => ⟨by have := (hE p hp).key; omega, hE p hp⟩) (by simp)
  have hR : parseR (tbs T) = (T, ([], 0)) := by
    unfold parseR
    rw [tbs_eq, h1]
    simpa using h2
  unfold parseT
  rw [hR]
  rfl
end SL
