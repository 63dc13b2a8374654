/-
  Parse, in plain terms: a beginning of a table's bytes is too short; bytes of which a table is told are its bytes.
-/
import Derived.Test.YtmnolaklpihmnaaOn16
set_option linter.unusedVariables false
set_option linter.unusedSimpArgs false
set_option maxRecDepth 10000
namespace SL
open Go Go.Proofs Go.RowKit
/-! beginnings -/
theorem take_app {α : Type} (a r : List α) (k : Nat) : (k < a.length ∧ (a ++ r).take k = a.take k) ∨ (a.length ≤ k ∧ (a ++ r).take k = a ++ r.take (k - a.length)) := by
  by_cases h : k < a.length
  · left
    refine ⟨h, ?_⟩
    rw [List.take_append]
    have : k - a.length = 0 := by omega
    rw [this]
    simp
  · right
    refine ⟨by omega, ?_⟩
    rw [List.take_append, List.take_of_length_le (by omega)]
theorem rBytes_short {cs : List UInt8} {most k : Nat} (h : cs.length < 18446744073709551616) (hm : cs.length ≤ most) (hk : k < (putN cs.length ++ cs).length) :
    (rBytes most ((putN cs.length ++ cs).take k, 0)).2.2 = 4 := by
  rcases take_app (putN cs.length) cs k with ⟨h1, h2⟩ | ⟨h1, h2⟩
  · rw [h2]
    unfold rBytes
    rw [rUpto_short h1]
    simp
  · rw [h2]
    unfold rBytes
    rw [rUpto_put h hm]
    have hl : (cs.take (k - (putN cs.length).length)).length < cs.length := by
      rw [List.length_append] at hk
      rw [List.length_take]; omega
    simp only [if_true]
    rw [if_pos hl]
theorem tb1_short {p : Int × OV} (hp : Ent1 p) {b : Int} (hb : b < p.1) {k : Nat} (hk : k < (tb1 p).length) : (rBytes 1048576 (q2 b ((tb1 p).take k, 0))).2.2 = 4 := by
  obtain ⟨⟨k1, k2⟩, ⟨r1, r2⟩, a1⟩ := hp
  have e : tb1 p = putN p.1.toNat ++ (putN p.2.1 ++ (putN p.2.2.length ++ p.2.2)) := by simp [tb1]
  rw [e] at hk ⊢
  rcases take_app (putN p.1.toNat) (putN p.2.1 ++ (putN p.2.2.length ++ p.2.2)) k with ⟨h1, h2⟩ | ⟨h1, h2⟩
  · rw [h2]
    have hs : ∀ s : RdS, rUpto 4294967295 s = (0, (s.1, 4)) → (rBytes 1048576 (q2 b s)).2.2 = 4 := by
      intro s hs
      have e1 : q1 b s = (s.1, 4) := by
        rw [q1_eq, hs]
        simp
      have e2 : q2 b s = (s.1, 4) := by
        rw [q2_eq, e1, rNum_err (by simp)]
        simp [rFail]
      rw [e2, rBytes_err (by simp)]
    exact hs _ (rUpto_short h1)
  · rw [h2]
    rw [List.length_append] at hk
    obtain ⟨k', hk'⟩ : ∃ k', k' = k - (putN p.1.toNat).length := ⟨_, rfl⟩
    rw [← hk']
    have hu := rUpto_put (n := p.1.toNat) (most := 4294967295) (by omega) (by omega) ((putN p.2.1 ++ (putN p.2.2.length ++ p.2.2)).take k')
    have e1 : q1 b (putN p.1.toNat ++ (putN p.2.1 ++ (putN p.2.2.length ++ p.2.2)).take k', 0) = ((putN p.2.1 ++ (putN p.2.2.length ++ p.2.2)).take k', 0) := by
      rw [q1_eq, hu]
      simp only
      rw [if_neg (by omega)]
    rcases take_app (putN p.2.1) (putN p.2.2.length ++ p.2.2) k' with ⟨h3, h4⟩ | ⟨h3, h4⟩
    · have e2 : q2 b (putN p.1.toNat ++ (putN p.2.1 ++ (putN p.2.2.length ++ p.2.2)).take k', 0) = ((putN p.2.1).take k', 4) := by
        rw [q2_eq, e1, h4, rNum_short h3]
        simp [rFail]
      rw [e2, rBytes_err (by simp)]
    · have e2 : q2 b (putN p.1.toNat ++ (putN p.2.1 ++ (putN p.2.2.length ++ p.2.2)).take k', 0) = ((putN p.2.2.length ++ p.2.2).take (k' - (putN p.2.1).length), 0) := by
        rw [q2_eq, e1, h4, rNum_put r2]
        simp only
        rw [if_neg (by omega)]
      rw [e2]
      refine rBytes_short (by omega) a1 ?_
      rw [List.length_append] at hk
      omega
theorem parseGo_short : ∀ (T T0 : OT) (b : Int) (k : Nat), ORise T → (∀ p ∈ T, b < p.1 ∧ Ent1 p) → k < (T.flatMap tb1).length → (parseGo T.length b T0 ((T.flatMap tb1).take k, 0)).2.2 = 4
  | [], T0, b, k, _, _, hk => by simp at hk
  | p :: T, T0, b, k, hr, ha, hk => by
    have h' : (∀ x ∈ T.map (·.1), p.1 < x) ∧ ORise T := by simpa only [ORise, List.map_cons, List.pairwise_cons] using hr
    obtain ⟨hb, hp⟩ := ha p (List.mem_cons_self ..)
    have e : (p :: T).flatMap tb1 = tb1 p ++ T.flatMap tb1 := by simp
    rw [e] at hk ⊢
    rw [List.length_cons]
    simp only [parseGo]
    rcases take_app (tb1 p) (T.flatMap tb1) k with ⟨h1, h2⟩ | ⟨h1, h2⟩
    · rw [h2]
      have h4 := tb1_short hp hb h1
      rw [parseGo_err _ _ _ _ (by rw [h4]; decide)]
      exact h4
    · rw [h2]
      obtain ⟨s1, s2, s3⟩ := step_ok hp hb ((T.flatMap tb1).take (k - (tb1 p).length))
      have hk1 : ((p.1.toNat : Nat) : Int) = p.1 := by have := hp.key; omega
      rw [s1, s2, s3, hk1]
      refine parseGo_short T _ p.1 _ h'.2 (fun x hx => ⟨h'.1 x.1 (List.mem_map.2 ⟨x, hx, rfl⟩), (ha x (List.mem_cons_of_mem _ hx)).2⟩) ?_
      rw [List.length_append] at hk
      omega
theorem parse_short {T : OT} (hT : TOk T) (hE : TEnt T) {k : Nat} (hk : k < (tbs T).length) : parseT ((tbs T).take k) = (none, 4) := by
  have hl := hT.len
  have hR : (parseR ((tbs T).take k)).2.2 = 4 := by
    unfold parseR
    rw [tbs_eq] at hk ⊢
    rcases take_app (putN T.length) (T.flatMap tb1) k with ⟨h1, h2⟩ | ⟨h1, h2⟩
    · rw [h2, rUpto_short h1]
      rfl
    · rw [h2, rUpto_put (by omega) hl]
      rw [List.length_append] at hk
      exact parseGo_short T [] (-1) _ hT.rise (fun p hp => ⟨by have := (hE p hp).key; omega, hE p hp⟩) (by omega)
  unfold parseT
  rw [rEnd_err (by rw [hR]; decide), hR]
  rfl
/-! bytes of which a table is told -/
theorem rFail_ok {e : Int} (he : ¬ e = 0) {s : RdS} : ¬ (rFail e s).2 = 0 := by
  unfold rFail
  simp only
  split
  · exact he
  · assumption
theorem rNum_ok {s : RdS} (h : (rNum s).2.2 = 0) : s.2 = 0 ∧ (rNum s).1 < 18446744073709551616 ∧ s.1 = putN (rNum s).1 ++ (rNum s).2.1 := by
  unfold rNum at h ⊢
  by_cases h0 : s.2 = 0
  · rw [if_pos h0] at h ⊢
    by_cases h1 : (getN s.1).2.2 = 0
    · rw [if_pos h1] at h ⊢
      have := getN_ok (b := s.1) (n := (getN s.1).1) (s := (getN s.1).2.1) (by rw [← h1])
      exact ⟨h0, this.1, this.2.2⟩
    · rw [if_neg h1] at h
      exact absurd h h1
  · rw [if_neg h0] at h
    exact absurd h h0
theorem rUpto_ok {most : Nat} {s : RdS} (h : (rUpto most s).2.2 = 0) : s.2 = 0 ∧ (rUpto most s).1 ≤ most ∧ (rUpto most s).1 < 18446744073709551616 ∧ s.1 = putN (rUpto most s).1 ++ (rUpto most s).2.1 := by
  unfold rUpto at h ⊢
  by_cases h0 : most < (rNum s).1
  · rw [if_pos h0] at h
    exact absurd h (rFail_ok (by decide))
  · rw [if_neg h0] at h ⊢
    have := rNum_ok h
    exact ⟨this.1, by omega, this.2.1, this.2.2⟩
theorem rBytes_ok {most : Nat} {s : RdS} (h : (rBytes most s).2.2 = 0) : s.2 = 0 ∧ (rBytes most s).1.length ≤ most ∧ s.1 = putN (rBytes most s).1.length ++ ((rBytes most s).1 ++ (rBytes most s).2.1) := by
  unfold rBytes at h ⊢
  by_cases h0 : (rUpto most s).2.2 = 0
  · rw [if_pos h0] at h ⊢
    have hu := rUpto_ok h0
    by_cases h1 : (rUpto most s).2.1.length < (rUpto most s).1
    · rw [if_pos h1] at h
      simp at h
    · rw [if_neg h1]
      have hl : ((rUpto most s).2.1.take (rUpto most s).1).length = (rUpto most s).1 := by rw [List.length_take]; omega
      simp only [hl]
      refine ⟨hu.1, hu.2.1, ?_⟩
      rw [List.take_append_drop]
      exact hu.2.2.2
  · rw [if_neg h0] at h
    exact absurd h h0
theorem parseGo_ok : ∀ (f : Nat) (b : Int) (T0 T1 : OT) (s s' : RdS), parseGo f b T0 s = (T1, s') → s'.2 = 0 → -1 ≤ b → (∀ p ∈ T0, p.1 ≤ b) →
    ∃ T, T1 = T0 ++ T ∧ T.length = f ∧ s.2 = 0 ∧ s.1 = T.flatMap tb1 ++ s'.1 ∧ ORise T ∧ (∀ p ∈ T, b < p.1 ∧ Ent1 p)
  | 0, b, T0, T1, s, s', h, h0, _, _ => by
    simp only [parseGo, Prod.mk.injEq] at h
    obtain ⟨rfl, rfl⟩ := h
    exact ⟨[], by simp, rfl, h0, by simp, by simp [ORise], by simp⟩
  | f + 1, b, T0, T1, s, s', h, h0, hb, hT => by
    simp only [parseGo] at h
    have hz : (rBytes 1048576 (q2 b s)).2.2 = 0 := by
      by_cases c : (rBytes 1048576 (q2 b s)).2.2 = 0
      · exact c
      · have := parseGo_err f (rUpto 4294967295 s).1 (oins (rUpto 4294967295 s).1 ((rNum (q1 b s)).1, (rBytes 1048576 (q2 b s)).1) T0) _ c
        rw [h] at this
        simp only at this
        rw [this] at h0
        exact absurd h0 c
    have hB := rBytes_ok hz
    have hq2 := hB.1
    rw [q2_eq] at hq2
    have hn : ¬ (rNum (q1 b s)).1 = 0 := fun c => by
      rw [if_pos c] at hq2
      exact rFail_ok (by decide) hq2
    rw [if_neg hn] at hq2
    have hN := rNum_ok hq2
    have hq1 := hN.1
    rw [q1_eq] at hq1
    have hc : ¬ (((rUpto 4294967295 s).1 : Int) ≤ b ∧ (rUpto 4294967295 s).2.2 = 0) := fun c => by
      rw [if_pos c] at hq1
      exact rFail_ok (by decide) hq1
    rw [if_neg hc] at hq1
    have hU := rUpto_ok hq1
    have hlt : b < ((rUpto 4294967295 s).1 : Int) := by
      have : ¬ ((rUpto 4294967295 s).1 : Int) ≤ b := fun c => hc ⟨c, hq1⟩
      omega
    have e1 : q1 b s = (rUpto 4294967295 s).2 := by rw [q1_eq, if_neg hc]
    have e2 : q2 b s = (rNum (q1 b s)).2 := by rw [q2_eq, if_neg hn]
    obtain ⟨p, hp⟩ : ∃ p : Int × OV, p = (((rUpto 4294967295 s).1 : Int), ((rNum (q1 b s)).1, (rBytes 1048576 (q2 b s)).1)) := ⟨_, rfl⟩
    have hpe : Ent1 p := by
      rw [hp]
      exact ⟨⟨by simp only; omega, by simp only; have := hU.2.1; omega⟩, ⟨by simp only; omega, hN.2.1⟩, hB.2.1⟩
    have hs : s.1 = tb1 p ++ (rBytes 1048576 (q2 b s)).2.1 := by
      have h1 : (rUpto 4294967295 s).2.1 = putN (rNum (q1 b s)).1 ++ (rNum (q1 b s)).2.1 := by rw [← e1]; exact hN.2.2
      have h2 : (rNum (q1 b s)).2.1 = putN (rBytes 1048576 (q2 b s)).1.length ++ ((rBytes 1048576 (q2 b s)).1 ++ (rBytes 1048576 (q2 b s)).2.1) := by rw [← e2]; exact hB.2.2
      rw [hU.2.2.2, h1, h2, hp]
      simp [tb1]
    rw [oins_last (fun x hx => by have := hT x hx; omega)] at h
    obtain ⟨T, t1, t2, t3, t4, t5, t6⟩ := parseGo_ok f _ _ T1 _ s' h h0 (by omega) (fun x hx => by
      rcases List.mem_append.1 hx with hx | hx
      · have := hT x hx; omega
      · simp at hx
        subst hx
        exact Int.le_refl _)
    refine ⟨p :: T, by rw [t1, hp]; simp, by simp [t2], hU.1, by rw [hs, t4]; simp, ?_, ?_⟩
    · show ((p :: T).map (·.1)).Pairwise _
      rw [List.map_cons, List.pairwise_cons]
      refine ⟨fun x hx => ?_, t5⟩
      obtain ⟨y, hy, rfl⟩ := List.mem_map.1 hx
      have := (t6 y hy).1
      rw [hp]
      exact this
    · intro x hx
      rcases List.mem_cons.1 hx with rfl | hx
      · exact ⟨by rw [hp]; exact hlt, hpe⟩
      · have := t6 x hx
        exact ⟨by have := this.1; omega, this.2⟩
theorem parse_ok {bs : List UInt8} {T : OT} (h : parseT bs = (some T, 0)) : TOk T ∧ TEnt T ∧ tbs T = bs := by
  unfold parseT at h
  by_cases h0 : (rEnd (parseR bs).2).2 = 0
  · rw [if_pos h0] at h
    simp only [Prod.mk.injEq, Option.some.injEq, and_true] at h
    have h1 : (parseR bs).2.2 = 0 ∧ (parseR bs).2.1.length = 0 := by
      unfold rEnd at h0
      split at h0
      · simp at h0
      · rename_i c
        exact ⟨h0, by have := h0; simp only [h0, true_and] at c; omega⟩
    have hz : (rUpto 16 (bs, 0)).2.2 = 0 := by
      by_cases c : (rUpto 16 (bs, 0)).2.2 = 0
      · exact c
      · have := parseGo_err (rUpto 16 (bs, 0)).1 (-1) [] _ c
        have h2 := h1.1
        unfold parseR at h2
        rw [this] at h2
        exact absurd h2 c
    have hU := rUpto_ok hz
    obtain ⟨T', t1, t2, t3, t4, t5, t6⟩ := parseGo_ok (rUpto 16 (bs, 0)).1 (-1) [] (parseR bs).1 (rUpto 16 (bs, 0)).2 (parseR bs).2 rfl h1.1 (Int.le_refl _) (by simp)
    rw [h, List.nil_append] at t1
    subst t1
    have hnil : (parseR bs).2.1 = [] := List.eq_nil_of_length_eq_zero h1.2
    refine ⟨⟨t5, by rw [t2]; exact hU.2.1, fun p hp => ?_⟩, fun p hp => (t6 p hp).2, ?_⟩
    · have := (t6 p hp).2
      exact ⟨this.key.1, this.key.2, this.req.2, this.ans⟩
    · rw [tbs_eq, t2]
      have h3 := hU.2.2.2
      simp only at h3
      have h5 : bs = putN (rUpto 16 (bs, 0)).1 ++ T.flatMap tb1 := by
        rw [hnil, List.append_nil] at t4
        rw [← t4]
        exact h3
      exact h5.symm
  · rw [if_neg h0] at h
    simp at h
end SL
