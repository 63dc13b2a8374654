/-
  The given statement 'LeaseKnown': the chapter's rows, limits.
  Conditions: none beyond those of the given statement.
-/
import Derived.Test.YtpnlenpglmffdaaLs7
import Derived.Test.YtpnlenpglmffdaaLs11
import Derived.Test.YtpnlenpglmffdaaSo15
import Derived.Test.YtpnlenpglmffdaaRows
set_option linter.unusedVariables false
set_option linter.unusedSimpArgs false
set_option maxRecDepth 10000
namespace SL
open Go Go.Proofs Go.RowKit Go.ChangeShapes Go.WideShapes Go.ChangeAt Go.WideElems

section
variable {P : Program} {fid : Fm} {n : Nat} {post : Post} {k : List Item} {ρ ρ' : Env} {ops rest : List Oper} {g : Option (Nat × Bool)} {ty : TypeId} {pos : String} {af : Array Edge} {d : Nat} {sf : Option (List Bool × List HProp)} {L L' r : List HProp}
/-- append where there is no room: a new block, the old one stays -/
theorem TO.appendGrow {x y : Operand} {t t' e sz by_ m m' cap b : Nat} {cs extra new cs2 : List Value} {s2 : Nat} {yv z : Value} [ht : TSl P t e sz by_] [hz : TZe P e z] [hni' : TNI P t']
    (hw : wants ops ρ g = some true) (hd : Nat.blt d n = true) (hx : ev ρ x = some (.slice (some ⟨b, 0, none⟩) m cap)) (hy : ev ρ y = some yv) (hzs : z.cells.size = sz)
    (hp : Pick L (blk b e (cs ++ extra)) r) (hcl : cs.length = m * sz) (hs : Src P L sz m' yv new) (h1 : ∀ v ∈ new, v.oneCell' = true) (hb0 : by_ ≠ 0) (hb : (m + m') * by_ ≤ 140737488355328) (hfit : ¬ m + m' ≤ cap)
    (hs2 : m + m' = s2) (hcs2 : cs ++ new = cs2)
    (h : ∀ (b' cap' : Nat), TO P fid n post ops rest sf k ((d, .slice (some ⟨b', 0, none⟩) s2 cap') :: ρ) (own e sz (some ⟨b', 0, none⟩) s2 cap' cs2 :: L)) :
    TO P fid n post ops (⟨some d, .call ⟨.builtin .append, [x, y].toArray, [t, t'].toArray⟩, ty, pos, af, g⟩ :: rest) sf k ρ L :=
  TO.val hw hd fun w0 F act w gr st => by
    subst hs2 hcs2
    obtain ⟨hnl, hsr⟩ := hs
    obtain ⟨hsr1, hsr2⟩ := hsr w0 F w st
    obtain ⟨dt, hdt, hni⟩ := hni'.und
    have hzero : (underlying t').run P w = .ok dt w := run_und hdt w
    have hnm : (dt matches .int _) = false := by
      cases dt <;> first | rfl | exact absurd rfl (hni _)
    have hgrow : ¬ Builtin.nextslicecap (m + m') cap * ((P.info? e).getD default).bytes > 281474976710656 := by
      rw [ht.bytes]
      have := growslice_fits (need := m + m') (old := cap) (bytes := by_) (by omega) hb
      omega
    have hc : Question.forced (.appendCap (m + m') cap e) = false := rfl
    have hbne : ((P.info? e).getD default).bytes ≠ 0 := by rw [ht.bytes]; exact hb0
    have hold : (Builtin.firstCells sz m (.slice (some ⟨b, 0, none⟩) m cap)).run P w.drew = .ok cs.toArray w.drew := by
      simp only [Builtin.firstCells]
      refine (show Sat w0 L _ w.drew from st.drawn (w.drawn + 1)).loads hp ⟨hcl, fun j v hj => ?_⟩
      have : j < cs.length := (List.getElem?_eq_some_iff.1 hj).1
      rw [Nat.zero_add, List.getElem?_append_left this]; exact hj
    obtain ⟨hsr1', hsr2'⟩ := hsr w0 F w.drew (st.drawn _)
    let nc := (Question.appendCap (m + m') cap e).cut (w.tape w.drawn (.appendCap (m + m') cap e))
    have hnc : m + m' ≤ nc := Nat.le_add_right _ _
    have hst := (st.drawn (w.drawn + 1)).new (o := .cells (cs.toArray ++ new.toArray ++ Builtin.zeroCells z.cells (nc - (m + m'))) e)
    refine ⟨.slice (some ⟨w.heap.size, 0, Option.none⟩) (m + m') nc, own e sz (some ⟨w.heap.size, 0, Option.none⟩) (m + m') nc (cs ++ new) :: L,
      { w with drawn := w.drawn + 1, heap := w.heap.push (.cells (cs.toArray ++ new.toArray ++ Builtin.zeroCells z.cells (nc - (m + m'))) e) }, ?_, ?_, h _ nc⟩
    · simp [execOp, resolve, invoke, builtin, gr.eval hx, gr.eval hy, Builtin.append_, run_und ht.und, ht.size, hzero, hnm, hsr1', hsr2, hfit, ht.info, hgrow, hc, hold, hz.run, newRow, hbne]
      refine ⟨rfl, ?_⟩
      have ea : cs.toArray ++ (new.toArray ++ Builtin.zeroCells z.cells ((Question.appendCap (m + m') cap e).cut (w.tape w.drawn (Question.appendCap (m + m') cap e)) - (m + m'))) =
          (cs ++ new).toArray ++ Builtin.zeroCells z.cells (nc - (m + m')) := by
        apply Array.ext'
        simp [nc]
      rw [ea]
      rfl
    · refine Sat.map (L' := own e sz (some ⟨w.heap.size, 0, Option.none⟩) (m + m') nc (cs ++ new) :: L) (s := (?_ : Sat w0 (blk w.heap.size e ((cs ++ new) ++ (Builtin.zeroCells z.cells (nc - (m + m'))).toList) :: L) _ _)) ?_
      · have e1 : (cs.toArray ++ new.toArray ++ Builtin.zeroCells z.cells (nc - (m + m'))) = ((cs ++ new) ++ (Builtin.zeroCells z.cells (nc - (m + m'))).toList).toArray := by
          apply Array.ext'
          simp
        rw [e1] at hst ⊢
        exact hst
      · intro hp' x
        refine sep_mono (fun h' x => ?_) (fun _ x => x) x
        refine SL.own_blk (by simp [hcl, hnl, Nat.add_mul]) ?_ hnc x
        have : nc * sz = (m + m') * sz + (nc - (m + m')) * sz := by rw [← Nat.add_mul]; congr 1; omega
        simp [zeroCells_length, hzs, hcl, hnl, this, Nat.add_mul]
        omega
end

/-! the leases of the statement -/
def T0 (i : Nat) : As2 := (List.range i).map fun (j : Nat) => (100 - (j : Int), (65 : Int))
def TF : As2 := iup 100 66 (T0 16)
def PK : As2 := [(85, 65), (86, 65), (87, 65), (88, 65), (89, 65), (90, 65), (91, 65), (92, 65), (93, 65), (94, 65), (95, 65), (96, 65), (97, 65), (98, 65), (99, 65), (100, 66)]
def PL : As2 := PK ++ [(1, 0)]
def TG : As2 := idl 85 TF
theorem T0_len (i : Nat) : (T0 i).length = i := by simp [T0]
theorem T0_new (i : Nat) : lkp (100 - (i : Int)) (T0 i) = none := by
  rw [lkp_none]
  simp only [T0, List.map_map, List.mem_map, List.mem_range, Function.comp_apply, not_exists, not_and]
  intro j hj h
  omega
theorem T0_succ (i : Nat) : T0 (i + 1) = T0 i ++ [(100 - (i : Int), 65)] := by simp [T0, List.range_succ]
theorem srtTF : srt (TF.map (·.1)) = PK.map (·.1) := sorted_unique (srt_sorted _) (by decide) ((srt_perm _).trans (by
  have : TF.map (·.1) = (PK.map (·.1)).reverse := by decide
  rw [this]; exact List.reverse_perm _))
theorem cellsTF : lsCells TF (PK.map (·.1)) = prC PK := by rw [lsCells_pr]; exact congrArg prC (by decide)
theorem okPK : NewOk PK := by
  have h1 : PK = (prs TF (PK.map (·.1)).reverse).reverse := by decide
  rw [h1]
  exact rev_newOk (by decide) (by decide)
theorem okPL : NewOk PL := by
  intro j p hj hp
  have hl : PL.length = 17 := by decide
  by_cases h : j < 16
  · have h1 : PL[j]? = PK[j]? := List.getElem?_append_left (by exact h)
    rw [h1] at hp
    have := okPK j p (by exact h) hp
    have h2 : PL.take j = PK.take j := List.take_append_of_le_length (by show j ≤ 16; omega)
    rw [h2]; exact this
  · have : j = 16 := by omega
    subst this
    have h3 : PL[16]? = some (1, 0) := by decide
    rw [h3] at hp
    cases hp
    decide
theorem bad1 : ¬ NewOk [(1, 0), (1, 0)] := fun h => by have := (h 1 (1, 0) (by decide) rfl).1; revert this; decide
theorem bad2 : ¬ NewOk [(0, 1099511627841)] := fun h => by have := (h 0 (0, 1099511627841) (by decide) rfl).2; revert this; decide
theorem nthPK (ex : List Value) : nth (prC PK ++ ex) 0 = some (.int .u32 85) := rfl
theorem cutPK (ex : List Value) : Cut (prC PK ++ ex) 30 2 [.int .u32 100, .int .u64 66] := prC_cut (T := PK) (i := 15) (p := (100, 66)) (by decide) ex
theorem prPL (ex : List Value) : prC PL ++ ex = prC PK ++ ([.int .u32 1, .int .u64 0] ++ ex) := by rw [PL, prC_snoc, List.append_assoc]
theorem lenPK : (prC PK).length = 32 := by rw [prC_length]; rfl
theorem put_tail {pk ex nw pl : List Value} (h : pk.length = 16 * 2) (hn : nw.length = 2) (hp : pk ++ nw = pl) : pl ++ ex.drop 2 = (pk ++ ex).take (0 + 16 * 2) ++ nw ++ (pk ++ ex).drop (0 + 16 * 2 + nw.length) := by
  rw [List.take_left' (by rw [h]), show 0 + 16 * 2 + nw.length = pk.length + 2 from by rw [h, hn], List.drop_length_add_append, ← hp]
attribute [local irreducible] SL.TK SL.TO SL.TD SL.PV SL.Pick SL.Frm SL.Ent SL.Sub SL.EvAll SL.seps SL.sep SL.Cut SL.PutAt SL.blk SL.EvP SL.Fill SL.Src SL.EntD SL.own SL.ex SL.fact SL.orig

theorem new_all (a : Option Addr) (cap : Nat) (T : As2) (hN : T.length ≤ 16) (hok : NewOk T) : Spec Try.prog 25 [.slice a T.length cap] [own 78 2 a T.length cap (prC T)] (fun r L => ∃ nb, r = .tuple #[.pointer (some ⟨nb, 0, none⟩), .int .i64 0] ∧ L = [LeasesAt nb T, own 78 2 a T.length cap (prC T)]) :=
  Spec.postD (lsNew_spec a cap T (by omega)) fun v L h => by
    rcases h with ⟨_, _, nb, rfl, rfl⟩ | ⟨_, h, _⟩ | ⟨h, _⟩
    · exact ⟨_, ⟨nb, rfl, rfl⟩, EntD.refl⟩
    · omega
    · exact absurd hok h
theorem new_full (a : Option Addr) (cap : Nat) (T : As2) (hN : 16 < T.length) (h2 : T.length ≤ 100) (hok : NewOk T) : Spec Try.prog 25 [.slice a T.length cap] [own 78 2 a T.length cap (prC T)] (fun r L => r = .tuple #[.pointer none, .int .i64 7] ∧ L = [own 78 2 a T.length cap (prC T)]) :=
  Spec.postD (lsNew_spec a cap T (by omega)) fun v L h => by
    rcases h with ⟨_, h, _⟩ | ⟨_, _, rfl, rfl⟩ | ⟨h, _⟩
    · omega
    · exact ⟨_, ⟨rfl, rfl⟩, EntD.refl⟩
    · exact absurd hok h
theorem new_bad (a : Option Addr) (cap : Nat) (T : As2) (h2 : T.length ≤ 100) (hok : ¬ NewOk T) : Spec Try.prog 25 [.slice a T.length cap] [own 78 2 a T.length cap (prC T)] (fun r L => r = .tuple #[.pointer none, .int .i64 1] ∧ L = []) :=
  Spec.postD (lsNew_spec a cap T (by omega)) fun v L h => by
    rcases h with ⟨h, _⟩ | ⟨h, _⟩ | ⟨_, rfl, rfl⟩
    · exact absurd h hok
    · exact absurd h hok
    · exact ⟨_, ⟨rfl, rfl⟩, EntD.nil⟩
def knI (nb : Nat) (ρ : Env) (L : List HProp) (m : Nat) : Prop := ∃ i : Nat, i ≤ 16 ∧ ρ = [(3, .pointer (some ⟨nb, 0, none⟩)), (4, .int .i64 0), (5, .int .u32 i)] ∧ L = [LeasesAt nb (T0 i)] ∧ m = 16 - i
set_option maxHeartbeats 4000000 in
theorem known_spec : Spec Try.prog 11 [] [] (fun r L => r = .bool true ∧ L = []) := by
  have hW := Lib.hid wakes_spec
  have S1 := Lib.hid fun (nb i : Nat) (hi : i < 16) => (show Spec Try.prog 27 [.pointer (some ⟨nb, 0, none⟩), .int .u32 (100 - (i : Int)), .int .u64 1] [LeasesAt nb (T0 i)] (fun r L => r = .int .i64 0 ∧ L = [LeasesAt nb (T0 (i + 1))]) from by
    have := lsSet_spec nb (100 - (i : Int)) 1 (T0 i) (by decide)
    have hst : stp (T0 i) (100 - (i : Int), 1) = T0 (i + 1) := by
      rw [T0_succ, stp, iup_new (T0_new i)]
      rw [til, T0_new i]
      rfl
    rwa [setE_ok (by decide) (by rw [T0_len]; exact hi), setT_ok (by decide) (by rw [T0_len]; exact hi), hst] at this)
  have S2 := Lib.hid fun (nb : Nat) => (show Spec Try.prog 27 [.pointer (some ⟨nb, 0, none⟩), .int .u32 7, .int .u64 2] [LeasesAt nb (T0 16)] (fun r L => r = .int .i64 7 ∧ L = [LeasesAt nb (T0 16)]) from by
    have := lsSet_spec nb 7 2 (T0 16) (by decide)
    rwa [show setE 7 2 (T0 16) = 7 from by decide, show setT 7 2 (T0 16) = T0 16 from by decide] at this)
  have S3 := Lib.hid fun (nb : Nat) => (show Spec Try.prog 27 [.pointer (some ⟨nb, 0, none⟩), .int .u32 100, .int .u64 2] [LeasesAt nb (T0 16)] (fun r L => r = .int .i64 0 ∧ L = [LeasesAt nb TF]) from by
    have := lsSet_spec nb 100 2 (T0 16) (by decide)
    rwa [show setE 100 2 (T0 16) = 0 from by decide, show setT 100 2 (T0 16) = TF from by decide] at this)
  have S4 := Lib.hid fun (nb : Nat) => (show Spec Try.prog 27 [.pointer (some ⟨nb, 0, none⟩), .int .u32 100, .int .u64 1099511627777] [LeasesAt nb TF] (fun r L => r = .int .i64 1 ∧ L = [LeasesAt nb TF]) from by
    have := lsSet_spec nb 100 1099511627777 TF (by decide)
    rwa [show setE 100 1099511627777 TF = 1 from by decide, show setT 100 1099511627777 TF = TF from by decide] at this)
  have S5 := Lib.hid fun (nb : Nat) => (show Spec Try.prog 27 [.pointer (some ⟨nb, 0, none⟩), .int .u32 7, .int .u64 2] [LeasesAt nb TG] (fun r L => r = .int .i64 0 ∧ L = [LeasesAt nb (setT 7 2 TG)]) from by
    have := lsSet_spec nb 7 2 TG (by decide)
    rwa [show setE 7 2 TG = 0 from by decide] at this)
  have D1 := Lib.hid fun (nb : Nat) => (show Spec Try.prog 28 [.pointer (some ⟨nb, 0, none⟩), .int .u32 85] [LeasesAt nb TF] (fun r L => r = .int .i64 0 ∧ L = [LeasesAt nb TG]) from by
    have := lsDrop_spec nb 85 TF
    rwa [show (lkp 85 TF).isSome = true from by decide] at this)
  have D2 := Lib.hid fun (nb : Nat) => (show Spec Try.prog 28 [.pointer (some ⟨nb, 0, none⟩), .int .u32 85] [LeasesAt nb TG] (fun r L => r = .int .i64 6 ∧ L = [LeasesAt nb TG]) from by
    have := lsDrop_spec nb 85 TG
    rwa [show (lkp 85 TG).isSome = false from by decide] at this)
  have A1 := Lib.hid fun (nb : Nat) => (show Spec Try.prog 30 [.pointer (some ⟨nb, 0, none⟩)] [LeasesAt nb TF] (fun r L => ∃ a c, r = .slice a 16 c ∧ L = [LeasesAt nb TF, own 78 2 a 16 c (prC PK)]) from by
    have := lsAll_spec 255 (by omega) sort255 nb TF (by decide)
    rw [srtTF, cellsTF] at this
    exact this)
  have A2 := Lib.hid fun (nb : Nat) => (show Spec Try.prog 30 [.pointer (some ⟨nb, 0, none⟩)] [LeasesAt nb PK] (fun r L => ∃ a c cs, r = .slice a 16 c ∧ L = [LeasesAt nb PK, own 78 2 a 16 c cs]) from by
    have h1 := lsAll_spec 255 (by omega) sort255 nb PK (by decide)
    rw [srt_length, show (PK.map (·.1)).length = 16 from by decide] at h1
    exact Spec.postD h1 fun v L h => by
      obtain ⟨a, c, rfl, rfl⟩ := h
      exact ⟨_, ⟨a, c, _, rfl, rfl⟩, EntD.refl⟩)
  have N1 := Lib.hid fun (a : Option Addr) (c : Nat) => new_all a c PK (by decide) okPK
  have N2 := Lib.hid fun (a : Option Addr) (c : Nat) => new_full a c PL (by decide) (by decide) okPL
  have N3 := Lib.hid fun (a : Option Addr) (c : Nat) => (show Spec Try.prog 25 [.slice a 2 c] [own 78 2 a 2 c [.int .u32 1, .int .u64 0, .int .u32 1, .int .u64 0]] (fun r L => r = .tuple #[.pointer none, .int .i64 1] ∧ L = []) from new_bad a c [(1, 0), (1, 0)] (by decide) bad1)
  have N4 := Lib.hid fun (a : Option Addr) (c : Nat) => (show Spec Try.prog 25 [.slice a 1 c] [own 78 2 a 1 c [.int .u32 0, .int .u64 1099511627841]] (fun r L => r = .tuple #[.pointer none, .int .i64 1] ∧ L = []) from new_bad a c [(0, 1099511627841)] (by decide) bad2)
  simp only [show PK.length = 16 from by decide, show PL.length = 17 from by decide] at N1 N2
  obtain ⟨pk, hpk⟩ : ∃ pk, pk = prC PK := ⟨_, rfl⟩
  obtain ⟨pl, hpl⟩ : ∃ pl, pl = prC PL := ⟨_, rfl⟩
  have hnth := Lib.hid nthPK
  have hcut := Lib.hid cutPK
  have hPL := Lib.hid prPL
  have hpkl : pk.length = 16 * 2 := by rw [hpk, lenPK]
  rw [← hpk] at A1 N1 hnth hcut hPL
  rw [← hpl] at N2 hPL
  have hpkH := Lib.hid hpkl
  clear hpk hpl hpkl
  refine SL.Spec.of_TK Go.Proofs.Try.func11 rfl rfl SL.call11 rfl ?_
  repeat' (first | (refine SL.TO.is ?_; first | (refine SL.TO.door (o := ⟨_, .call ⟨.value (.func 27), _, _⟩, _, _, _, _⟩) ?_; first | (refine SL.W.call (setNil _ _) ?_; rintro _ _ ⟨rfl, rfl⟩; try simp only [List.cons_append, List.nil_append])) | (refine SL.TO.door (o := ⟨_, .call ⟨.value (.func 28), _, _⟩, _, _, _, _⟩) ?_; first | (refine SL.W.call (dropZero _ _) ?_; rintro _ _ ⟨rfl, rfl⟩; try simp only [List.cons_append, List.nil_append])) | (refine SL.TO.door (o := ⟨_, .call ⟨.value (.func 26), _, _⟩, _, _, _, _⟩) ?_; first | (refine SL.W.call (liveNil _ _) ?_; rintro _ _ ⟨rfl, rfl⟩; try simp only [List.cons_append, List.nil_append])) | (refine SL.TO.door (o := ⟨_, .call ⟨.value (.func 30), _, _⟩, _, _, _, _⟩) ?_; first | (refine SL.W.call (allZero _) ?_; rintro _ _ ⟨rfl, rfl⟩; try simp only [List.cons_append, List.nil_append])) | (refine SL.TO.door (o := ⟨_, .call ⟨.value (.func 40), _, _⟩, _, _, _, _⟩) ?_; first | (refine SL.W.call (thereNil _) ?_; rintro _ _ ⟨rfl, rfl⟩; try simp only [List.cons_append, List.nil_append])) | (refine SL.TO.door (o := ⟨_, .call ⟨.value (.func 34), _, _⟩, _, _, _, _⟩) ?_; first | (refine SL.W.call (expireZero _ _) ?_; rintro _ _ ⟨rfl, rfl⟩; try simp only [List.cons_append, List.nil_append])) | (refine SL.TO.door (o := ⟨_, .call ⟨.value (.func 37), _, _⟩, _, _, _, _⟩) ?_; first | (refine SL.W.call (copyZero _) ?_; rintro _ _ ⟨rfl, rfl⟩; try simp only [List.cons_append, List.nil_append])) | (refine SL.TO.door (o := ⟨_, .call ⟨.value (.func 25), _, _⟩, _, _, _, _⟩) ?_; first | (refine SL.W.call (lsNew0_spec) ?_; rintro _ _ ⟨nb, rfl, rfl⟩; try simp only [List.cons_append, List.nil_append])) | refine SL.TO.nil ?_ | (refine SL.TO.nilD ?_; simp only [SL.setB]) | refine SL.W.pass ?_ | refine SL.W.pass0 ?_ | (refine SL.W.pure ?_; first | refine SL.W.pv ?_ | refine SL.W.pv0 ?_ | refine SL.W.lenMp ?_ | (refine SL.W.guardP (fun h => ?_) (fun h => ?_) <;> (fail_if_success (have : h = trivial := rfl)) <;> (fail_if_success (have : h = not_false := rfl)) <;> first | contradiction | (exfalso; omega) | (exfalso; revert h; simp; done) | skip) | (refine SL.W.guardB (fun h => ?_) (fun h => ?_) <;> (fail_if_success (have : h = (rfl : true = true) := rfl)) <;> (fail_if_success (have : h = (rfl : false = false) := rfl)))) | (refine SL.W.loud ?_; first | refine SL.W.load ?_ | refine SL.W.loadA ?_ | refine SL.W.store ?_ | refine SL.W.storeA ?_ | (refine SL.W.box ?_; intro b) | (refine SL.W.alloc ?_; intro b) | (refine SL.W.buildSlice ?_; intro b) | (refine SL.W.append ?_; intro a cap) | refine SL.W.bytesToStr ?_ | refine SL.W.pvn (SL.PV.toIntC (by rfl) (by first | exact SL.wrap_i64 (by omega) | exact SL.wrap_u8 (by omega) | exact SL.wrap_u32 (by omega) | exact SL.wrap_u64 (by omega) | rfl)) ?_ | (refine SL.W.makeSlice ?_; intro b) | refine SL.W.lookupOk ?_ | refine SL.W.lookup ?_ | (refine SL.W.makeMap ?_; intro b) | refine SL.W.mapUpdate ?_ | (refine SL.W.mapEntry ?_; intro stamp) | refine SL.W.entryStore ?_ | (refine SL.W.range ?_; intro it) | refine SL.W.delete ?_ | (refine SL.W.guardP (fun h => ?_) (fun h => ?_) <;> (fail_if_success (have : h = trivial := rfl)) <;> (fail_if_success (have : h = not_false := rfl)) <;> first | contradiction | (exfalso; omega) | (exfalso; revert h; simp; done) | skip) | (refine SL.W.guardB (fun h => ?_) (fun h => ?_) <;> (fail_if_success (have : h = (rfl : true = true) := rfl)) <;> (fail_if_success (have : h = (rfl : false = false) := rfl))))) | (refine SL.TK.lp ?_; first | (refine SL.TK.block ?_; refine SL.TK.loopD (knI nb) ?_ ⟨0, Nat.zero_le _, rfl, rfl, rfl⟩ (by first | ((repeat (first | exact SL.Sub.nil | refine SL.Sub.cons (by rfl) (by first | rfl | exact SL.int_eq (by omega)) ?_)); done) | fail) (EntD.cons (by first | ((repeat (first | exact SL.Pick.head | apply SL.Pick.tail)); done) | fail) EntD.nil))) | (refine SL.TK.is ?_; first | refine SL.TK.seq ?_ | refine SL.TK.region ?_ | refine SL.TK.regionD SL.mixed (by simp only [SL.falses] <;> rfl) ?_ | refine SL.TK.block ?_ | refine SL.TK.inBlock ?_ | refine SL.TK.skip ?_ | refine SL.TK.scope ?_ | refine SL.TK.inScope ?_ | refine SL.TK.label ?_ | refine SL.W.exit ?_ | refine SL.W.condT ?_ | refine SL.W.condF ?_ | (refine SL.W.condP (fun h => ?_) (fun h => ?_) <;> (fail_if_success (have : h = trivial := rfl)) <;> (fail_if_success (have : h = not_false := rfl)) <;> first | contradiction | (exfalso; omega) | (exfalso; revert h; simp; done) | skip) | refine SL.W.condB (fun h => ?_) (fun h => ?_)) | (refine SL.TD.is ?_; first | (refine SL.W.dfin ?_; simp only [List.append_nil, List.cons_append, List.nil_append]) | refine SL.W.dpass ?_ | refine SL.W.dpure ?_ | refine SL.W.dload ?_ | refine SL.W.dloadA ?_ | refine SL.W.dfrz ?_ | (refine SL.W.dthaw ?_; simp only [List.append_nil, List.cons_append, List.nil_append]) | (refine SL.W.dguardP (fun h => ?_) (fun h => ?_) <;> (fail_if_success (have : h = trivial := rfl)) <;> (fail_if_success (have : h = not_false := rfl)) <;> first | contradiction | (exfalso; omega) | (exfalso; revert h; simp; done) | skip) | (refine SL.W.dguardB (fun h => ?_) (fun h => ?_) <;> (fail_if_success (have : h = (rfl : true = true) := rfl)) <;> (fail_if_success (have : h = (rfl : false = false) := rfl))) | refine SL.W.done ?_ | refine SL.W.dtwo ?_ ?_ | refine SL.W.dthree ?_ ?_ ?_))
  rintro ρ L m ⟨i, hi, rfl, rfl, rfl⟩ ih
  by_cases hlt : i < 16
  · have hs := S1.out nb i hlt
    clear S1 S2 S3 S4 S5 D1 D2 A1 A2 N1 N2 N3 N4 hW hnth hcut hPL
    obtain ⟨U, hU⟩ : ∃ U, U = T0 i := ⟨_, rfl⟩
    obtain ⟨U2, hU2⟩ : ∃ U, U = T0 (i + 1) := ⟨_, rfl⟩
    rw [← hU, ← hU2] at hs
    rw [← hU]
    have hU2H := Lib.hid hU2
    clear hU hU2
    repeat' (first | (refine SL.TO.is ?_; first | (refine SL.TO.door (o := ⟨_, .call ⟨.value (.func 27), _, _⟩, _, _, _, _⟩) ?_; first | (refine SL.W.call (hs) ?_; rintro _ _ ⟨rfl, rfl⟩; try simp only [List.cons_append, List.nil_append])) | refine SL.TO.nil ?_ | (refine SL.TO.nilD ?_; simp only [SL.setB]) | refine SL.W.pass ?_ | refine SL.W.pass0 ?_ | (refine SL.W.pure ?_; first | refine SL.W.pv ?_ | refine SL.W.pv0 ?_ | refine SL.W.lenMp ?_ | (refine SL.W.guardP (fun h => ?_) (fun h => ?_) <;> (fail_if_success (have : h = trivial := rfl)) <;> (fail_if_success (have : h = not_false := rfl)) <;> first | contradiction | (exfalso; omega) | (exfalso; revert h; simp; done) | skip) | (refine SL.W.guardB (fun h => ?_) (fun h => ?_) <;> (fail_if_success (have : h = (rfl : true = true) := rfl)) <;> (fail_if_success (have : h = (rfl : false = false) := rfl)))) | (refine SL.W.loud ?_; first | refine SL.W.load ?_ | refine SL.W.loadA ?_ | refine SL.W.store ?_ | refine SL.W.storeA ?_ | (refine SL.W.box ?_; intro b) | (refine SL.W.alloc ?_; intro b) | (refine SL.W.buildSlice ?_; intro b) | (refine SL.W.append ?_; intro a cap) | refine SL.W.bytesToStr ?_ | refine SL.W.pvn (SL.PV.toIntC (by rfl) (by first | exact SL.wrap_i64 (by omega) | exact SL.wrap_u8 (by omega) | exact SL.wrap_u32 (by omega) | exact SL.wrap_u64 (by omega) | rfl)) ?_ | (refine SL.W.makeSlice ?_; intro b) | refine SL.W.lookupOk ?_ | refine SL.W.lookup ?_ | (refine SL.W.makeMap ?_; intro b) | refine SL.W.mapUpdate ?_ | (refine SL.W.mapEntry ?_; intro stamp) | refine SL.W.entryStore ?_ | (refine SL.W.range ?_; intro it) | refine SL.W.delete ?_ | (refine SL.W.guardP (fun h => ?_) (fun h => ?_) <;> (fail_if_success (have : h = trivial := rfl)) <;> (fail_if_success (have : h = not_false := rfl)) <;> first | contradiction | (exfalso; omega) | (exfalso; revert h; simp; done) | skip) | (refine SL.W.guardB (fun h => ?_) (fun h => ?_) <;> (fail_if_success (have : h = (rfl : true = true) := rfl)) <;> (fail_if_success (have : h = (rfl : false = false) := rfl))))) | (refine SL.TK.is ?_; first | refine SL.TK.seq ?_ | refine SL.TK.region ?_ | refine SL.TK.regionD SL.mixed (by simp only [SL.falses] <;> rfl) ?_ | refine SL.TK.block ?_ | refine SL.TK.inBlock ?_ | refine SL.TK.skip ?_ | refine SL.TK.scope ?_ | refine SL.TK.inScope ?_ | refine SL.TK.label ?_ | refine SL.W.exit ?_ | refine SL.W.condT ?_ | refine SL.W.condF ?_ | (refine SL.W.condP (fun h => ?_) (fun h => ?_) <;> (fail_if_success (have : h = trivial := rfl)) <;> (fail_if_success (have : h = not_false := rfl)) <;> first | contradiction | (exfalso; omega) | (exfalso; revert h; simp; done) | skip) | refine SL.W.condB (fun h => ?_) (fun h => ?_)) | (refine SL.TD.is ?_; first | (refine SL.W.dfin ?_; simp only [List.append_nil, List.cons_append, List.nil_append]) | refine SL.W.dpass ?_ | refine SL.W.dpure ?_ | refine SL.W.dload ?_ | refine SL.W.dloadA ?_ | refine SL.W.dfrz ?_ | (refine SL.W.dthaw ?_; simp only [List.append_nil, List.cons_append, List.nil_append]) | (refine SL.W.dguardP (fun h => ?_) (fun h => ?_) <;> (fail_if_success (have : h = trivial := rfl)) <;> (fail_if_success (have : h = not_false := rfl)) <;> first | contradiction | (exfalso; omega) | (exfalso; revert h; simp; done) | skip) | (refine SL.W.dguardB (fun h => ?_) (fun h => ?_) <;> (fail_if_success (have : h = (rfl : true = true) := rfl)) <;> (fail_if_success (have : h = (rfl : false = false) := rfl))) | refine SL.W.done ?_ | refine SL.W.dtwo ?_ ?_ | refine SL.W.dthree ?_ ?_ ?_))
    refine SL.TK.againD ih ⟨i + 1, by omega, rfl, rfl, rfl⟩ (by first | ((repeat (first | exact SL.Sub.nil | refine SL.Sub.cons (by rfl) (by first | rfl | exact SL.int_eq (by omega)) ?_)); done) | fail) ?_ (by omega)
    rw [← hU2H.out]
    exact EntD.cons (by first | ((repeat (first | exact SL.Pick.head | apply SL.Pick.tail)); done) | fail) EntD.nil
  · have h16 : i = 16 := by omega
    subst h16
    clear ih S1
    obtain ⟨U, hU⟩ : ∃ U, U = T0 16 := ⟨_, rfl⟩
    rw [← hU] at S2 S3 ⊢
    clear hU
    obtain ⟨UF, hUF⟩ : ∃ U, U = TF := ⟨_, rfl⟩
    rw [← hUF] at S3 S4 D1 A1
    obtain ⟨UG, hUG⟩ : ∃ U, U = TG := ⟨_, rfl⟩
    rw [← hUG] at D1 D2 S5
    obtain ⟨UP, hUP⟩ : ∃ U, U = PK := ⟨_, rfl⟩
    rw [← hUP] at A2 N1
    obtain ⟨UH, hUH⟩ : ∃ U, U = setT 7 2 UG := ⟨_, rfl⟩
    rw [← hUH] at S5
    clear hUF hUG hUP hUH
    repeat' (first | (refine SL.TO.is ?_; first | (refine SL.TO.door (o := ⟨_, .call ⟨.value (.func 27), _, _⟩, _, _, _, _⟩) ?_; first | (refine SL.W.call (S2.out _) ?_; rintro _ _ ⟨rfl, rfl⟩; try simp only [List.cons_append, List.nil_append]) | (refine SL.W.call (S3.out _) ?_; rintro _ _ ⟨rfl, rfl⟩; try simp only [List.cons_append, List.nil_append]) | (refine SL.W.call (S4.out _) ?_; rintro _ _ ⟨rfl, rfl⟩; try simp only [List.cons_append, List.nil_append])) | (refine SL.TO.door (o := ⟨_, .call ⟨.value (.func 30), _, _⟩, _, _, _, _⟩) ?_; first | (refine SL.W.call (A1.out _) ?_; rintro _ _ ⟨a1, c1, rfl, rfl⟩; try simp only [List.cons_append, List.nil_append])) | (refine SL.TO.door (o := ⟨_, .call ⟨.value (.func 25), _, _⟩, _, _, _, _⟩) ?_; first | (refine SL.W.call (N1.out _ _) ?_; rintro _ _ ⟨yb, rfl, rfl⟩; try simp only [List.cons_append, List.nil_append])) | refine SL.TO.nil ?_ | (refine SL.TO.nilD ?_; simp only [SL.setB]) | refine SL.W.pass ?_ | refine SL.W.pass0 ?_ | (refine SL.W.pure ?_; first | refine SL.W.pv ?_ | refine SL.W.pv0 ?_ | refine SL.W.lenMp ?_ | (refine SL.W.guardP (fun h => ?_) (fun h => ?_) <;> (fail_if_success (have : h = trivial := rfl)) <;> (fail_if_success (have : h = not_false := rfl)) <;> first | contradiction | (exfalso; omega) | (exfalso; revert h; simp; done) | skip) | (refine SL.W.guardB (fun h => ?_) (fun h => ?_) <;> (fail_if_success (have : h = (rfl : true = true) := rfl)) <;> (fail_if_success (have : h = (rfl : false = false) := rfl)))) | (refine SL.W.loud ?_; first | refine SL.W.load ?_ | refine SL.W.loadA ?_ | refine SL.W.store ?_ | refine SL.W.storeA ?_ | (refine SL.W.box ?_; intro b) | (refine SL.W.alloc ?_; intro b) | (refine SL.W.buildSlice ?_; intro b) | (refine SL.W.append ?_; intro a cap) | refine SL.W.bytesToStr ?_ | refine SL.W.pvn (SL.PV.toIntC (by rfl) (by first | exact SL.wrap_i64 (by omega) | exact SL.wrap_u8 (by omega) | exact SL.wrap_u32 (by omega) | exact SL.wrap_u64 (by omega) | rfl)) ?_ | (refine SL.W.makeSlice ?_; intro b) | refine SL.W.lookupOk ?_ | refine SL.W.lookup ?_ | (refine SL.W.makeMap ?_; intro b) | refine SL.W.mapUpdate ?_ | (refine SL.W.mapEntry ?_; intro stamp) | refine SL.W.entryStore ?_ | (refine SL.W.range ?_; intro it) | refine SL.W.delete ?_ | (refine SL.W.guardP (fun h => ?_) (fun h => ?_) <;> (fail_if_success (have : h = trivial := rfl)) <;> (fail_if_success (have : h = not_false := rfl)) <;> first | contradiction | (exfalso; omega) | (exfalso; revert h; simp; done) | skip) | (refine SL.W.guardB (fun h => ?_) (fun h => ?_) <;> (fail_if_success (have : h = (rfl : true = true) := rfl)) <;> (fail_if_success (have : h = (rfl : false = false) := rfl))))) | (refine SL.TK.is ?_; first | (refine SL.TK.atR (id := 14) ?_; refine Stop.out ?_) | refine SL.TK.seq ?_ | refine SL.TK.region ?_ | refine SL.TK.regionD SL.mixed (by simp only [SL.falses] <;> rfl) ?_ | refine SL.TK.block ?_ | refine SL.TK.inBlock ?_ | refine SL.TK.skip ?_ | refine SL.TK.scope ?_ | refine SL.TK.inScope ?_ | refine SL.TK.label ?_ | refine SL.W.exit ?_ | refine SL.W.condT ?_ | refine SL.W.condF ?_ | (refine SL.W.condP (fun h => ?_) (fun h => ?_) <;> (fail_if_success (have : h = trivial := rfl)) <;> (fail_if_success (have : h = not_false := rfl)) <;> first | contradiction | (exfalso; omega) | (exfalso; revert h; simp; done) | skip) | refine SL.W.condB (fun h => ?_) (fun h => ?_)) | (refine SL.TD.is ?_; first | (refine SL.W.dfin ?_; simp only [List.append_nil, List.cons_append, List.nil_append]) | refine SL.W.dpass ?_ | refine SL.W.dpure ?_ | refine SL.W.dload ?_ | refine SL.W.dloadA ?_ | refine SL.W.dfrz ?_ | (refine SL.W.dthaw ?_; simp only [List.append_nil, List.cons_append, List.nil_append]) | (refine SL.W.dguardP (fun h => ?_) (fun h => ?_) <;> (fail_if_success (have : h = trivial := rfl)) <;> (fail_if_success (have : h = not_false := rfl)) <;> first | contradiction | (exfalso; omega) | (exfalso; revert h; simp; done) | skip) | (refine SL.W.dguardB (fun h => ?_) (fun h => ?_) <;> (fail_if_success (have : h = (rfl : true = true) := rfl)) <;> (fail_if_success (have : h = (rfl : false = false) := rfl))) | refine SL.W.done ?_ | refine SL.W.dtwo ?_ ?_ | refine SL.W.dthree ?_ ?_ ?_))
    refine Stop.mk ?_
    clear S2 S3 S4 A1 N1
    refine SL.TK.ownPos (e := 78) (sz := 2) (a := a1) (by first | ((repeat (first | exact SL.Pick.head | apply SL.Pick.tail)); done) | fail) (by omega) (fun bl ex ea e1 e2 e3 => ?_)
    subst ea
    have hPLe : pk ++ [.int .u32 1, .int .u64 0] = pl := by have := hPL.out []; simpa using this.symm
    have hPLH := Lib.hid hPLe
    have hexl : ex.length + 32 = c1 * 2 := by rw [List.length_append, hpkH.out] at e2; omega
    have hpll : pl.length = 17 * 2 := by rw [← hPLe, List.length_append, hpkH.out]; rfl
    have hpllH := Lib.hid hpll
    have h1c : ∀ v ∈ [Value.int .u32 1, .int .u64 0], v.oneCell' = true := by simp [Value.oneCell']
    have e1H := Lib.hid e1
    clear hPLe hpll e1 e2
    by_cases hfit : 16 + 1 ≤ c1
    · have hput : PutAt (pk ++ ex) (0 + 16 * 2) [.int .u32 1, .int .u64 0] (pl ++ ex.drop 2) :=
        PutAt.intro (by simp only [List.length_append, hpkH.out, List.length_cons, List.length_nil]; omega) (put_tail hpkH.out rfl hPLH.out)
      have hO := Lib.hid (own_of_blk (e := 78) (b := bl) (n := 17) (cap := c1) (extra := ex.drop 2) hpllH.out (by rw [List.length_append, hpllH.out, List.length_drop]; omega) (by omega))
      repeat' (first | (refine SL.TO.is ?_; first | (refine SL.TO.door (o := ⟨_, .call ⟨.builtin .append, _, _⟩, _, _, _, _⟩) ?_; first | (refine SL.TO.appendFit (by rfl) (by rfl) (by rfl) (by rfl) (by first | ((repeat (first | exact SL.Pick.head | apply SL.Pick.tail)); done) | fail) (by first | exact SL.Src.nil | exact SL.Src.sl (by first | ((repeat (first | exact SL.Pick.head | apply SL.Pick.tail)); done) | fail) (by omega) (by omega) (by assumption) | exact SL.Src.own (by first | ((repeat (first | exact SL.Pick.head | apply SL.Pick.tail)); done) | fail) (by first | rfl | assumption | simp) | exact SL.Src.blk (by first | ((repeat (first | exact SL.Pick.head | apply SL.Pick.tail)); done) | fail) (by first | ((repeat (first | exact SL.Cut.zero _ | apply SL.Cut.take | apply SL.Cut.drop)); done) | fail) | exact SL.Rd.src (by assumption) rfl (by first | ((repeat (first | exact SL.Pick.head | apply SL.Pick.tail)); done) | fail)) (by first | assumption | simp [Go.Value.oneCell']) hfit hput rfl ?_; refine SL.TO.entD (EntD.frm (by first | ((repeat (first | exact SL.Frm.nil | exact SL.Frm.refl | (apply SL.Frm.cons; repeat (first | exact SL.Pick.head | apply SL.Pick.tail)))); done) | fail) hO.out EntD.refl) ?_)) | (refine SL.TO.door (o := ⟨_, .call ⟨.value (.func 25), _, _⟩, _, _, _, _⟩) ?_; first | (refine SL.W.call (N2.out _ _) ?_; rintro _ _ ⟨rfl, rfl⟩; try simp only [List.cons_append, List.nil_append])) | refine SL.TO.nil ?_ | (refine SL.TO.nilD ?_; simp only [SL.setB]) | refine SL.W.pass ?_ | refine SL.W.pass0 ?_ | (refine SL.W.pure ?_; first | refine SL.W.pv ?_ | refine SL.W.pv0 ?_ | refine SL.W.lenMp ?_ | (refine SL.W.guardP (fun h => ?_) (fun h => ?_) <;> (fail_if_success (have : h = trivial := rfl)) <;> (fail_if_success (have : h = not_false := rfl)) <;> first | contradiction | (exfalso; omega) | (exfalso; revert h; simp; done) | skip) | (refine SL.W.guardB (fun h => ?_) (fun h => ?_) <;> (fail_if_success (have : h = (rfl : true = true) := rfl)) <;> (fail_if_success (have : h = (rfl : false = false) := rfl)))) | (refine SL.W.loud ?_; first | refine SL.W.load ?_ | refine SL.W.loadA ?_ | refine SL.W.store ?_ | refine SL.W.storeA ?_ | (refine SL.W.box ?_; intro b) | (refine SL.W.alloc ?_; intro b) | (refine SL.W.buildSlice ?_; intro b) | (refine SL.W.append ?_; intro a cap) | refine SL.W.bytesToStr ?_ | refine SL.W.pvn (SL.PV.toIntC (by rfl) (by first | exact SL.wrap_i64 (by omega) | exact SL.wrap_u8 (by omega) | exact SL.wrap_u32 (by omega) | exact SL.wrap_u64 (by omega) | rfl)) ?_ | (refine SL.W.makeSlice ?_; intro b) | refine SL.W.lookupOk ?_ | refine SL.W.lookup ?_ | (refine SL.W.makeMap ?_; intro b) | refine SL.W.mapUpdate ?_ | (refine SL.W.mapEntry ?_; intro stamp) | refine SL.W.entryStore ?_ | (refine SL.W.range ?_; intro it) | refine SL.W.delete ?_ | (refine SL.W.guardP (fun h => ?_) (fun h => ?_) <;> (fail_if_success (have : h = trivial := rfl)) <;> (fail_if_success (have : h = not_false := rfl)) <;> first | contradiction | (exfalso; omega) | (exfalso; revert h; simp; done) | skip) | (refine SL.W.guardB (fun h => ?_) (fun h => ?_) <;> (fail_if_success (have : h = (rfl : true = true) := rfl)) <;> (fail_if_success (have : h = (rfl : false = false) := rfl))))) | (refine SL.TK.is ?_; first | (refine SL.TK.atR (id := 15) ?_; refine Stop.out ?_) | refine SL.TK.seq ?_ | refine SL.TK.region ?_ | refine SL.TK.regionD SL.mixed (by simp only [SL.falses] <;> rfl) ?_ | refine SL.TK.block ?_ | refine SL.TK.inBlock ?_ | refine SL.TK.skip ?_ | refine SL.TK.scope ?_ | refine SL.TK.inScope ?_ | refine SL.TK.label ?_ | refine SL.W.exit ?_ | refine SL.W.condT ?_ | refine SL.W.condF ?_ | (refine SL.W.condP (fun h => ?_) (fun h => ?_) <;> (fail_if_success (have : h = trivial := rfl)) <;> (fail_if_success (have : h = not_false := rfl)) <;> first | contradiction | (exfalso; omega) | (exfalso; revert h; simp; done) | skip) | refine SL.W.condB (fun h => ?_) (fun h => ?_)) | (refine SL.TD.is ?_; first | (refine SL.W.dfin ?_; simp only [List.append_nil, List.cons_append, List.nil_append]) | refine SL.W.dpass ?_ | refine SL.W.dpure ?_ | refine SL.W.dload ?_ | refine SL.W.dloadA ?_ | refine SL.W.dfrz ?_ | (refine SL.W.dthaw ?_; simp only [List.append_nil, List.cons_append, List.nil_append]) | (refine SL.W.dguardP (fun h => ?_) (fun h => ?_) <;> (fail_if_success (have : h = trivial := rfl)) <;> (fail_if_success (have : h = not_false := rfl)) <;> first | contradiction | (exfalso; omega) | (exfalso; revert h; simp; done) | skip) | (refine SL.W.dguardB (fun h => ?_) (fun h => ?_) <;> (fail_if_success (have : h = (rfl : true = true) := rfl)) <;> (fail_if_success (have : h = (rfl : false = false) := rfl))) | refine SL.W.done ?_ | refine SL.W.dtwo ?_ ?_ | refine SL.W.dthree ?_ ?_ ?_))
      refine Stop.mk ?_
      refine SL.TK.ownPos (e := 78) (sz := 2) (a := some ⟨bl, 0, none⟩) (by first | ((repeat (first | exact SL.Pick.head | apply SL.Pick.tail)); done) | fail) (by omega) (fun b7 ex7 ea e4 e5 e6 => ?_)
      cases ea
      rw [hPL.out]
      clear hput hO e4 e5 N2
      repeat' (first | (refine SL.TO.is ?_; first | (refine SL.TO.door (o := ⟨_, .call ⟨.value (.func 25), _, _⟩, _, _, _, _⟩) ?_; first | (refine SL.W.call (N3.out _ _) ?_; rintro _ _ ⟨rfl, rfl⟩; try simp only [List.cons_append, List.nil_append]) | (refine SL.W.call (N4.out _ _) ?_; rintro _ _ ⟨rfl, rfl⟩; try simp only [List.cons_append, List.nil_append])) | (refine SL.TO.door (o := ⟨_, .call ⟨.value (.func 30), _, _⟩, _, _, _, _⟩) ?_; first | (refine SL.W.call (A2.out _) ?_; rintro _ _ ⟨a5, c5, cs5, rfl, rfl⟩; try simp only [List.cons_append, List.nil_append])) | (refine SL.TO.door (o := ⟨_, .call ⟨.value (.func 28), _, _⟩, _, _, _, _⟩) ?_; first | (refine SL.W.call (D1.out _) ?_; rintro _ _ ⟨rfl, rfl⟩; try simp only [List.cons_append, List.nil_append]) | (refine SL.W.call (D2.out _) ?_; rintro _ _ ⟨rfl, rfl⟩; try simp only [List.cons_append, List.nil_append])) | (refine SL.TO.door (o := ⟨_, .call ⟨.value (.func 27), _, _⟩, _, _, _, _⟩) ?_; first | (refine SL.W.call (S5.out _) ?_; rintro _ _ ⟨rfl, rfl⟩; try simp only [List.cons_append, List.nil_append])) | (refine SL.TO.door (o := ⟨_, .call ⟨.value (.func 29), _, _⟩, _, _, _, _⟩) ?_; first | (refine SL.W.call (hW.out) ?_; rintro _ _ ⟨rfl, rfl⟩; try simp only [List.cons_append, List.nil_append])) | (refine SL.TO.door (o := ⟨_, .load _ _, _, _, _, _⟩) ?_; first | refine SL.W.loadN (hnth.out _) ?_ | refine SL.W.loadAN (hcut.out _) ?_) | refine SL.TO.nil ?_ | (refine SL.TO.nilD ?_; simp only [SL.setB]) | refine SL.W.pass ?_ | refine SL.W.pass0 ?_ | (refine SL.W.pure ?_; first | refine SL.W.pv ?_ | refine SL.W.pv0 ?_ | refine SL.W.lenMp ?_ | (refine SL.W.guardP (fun h => ?_) (fun h => ?_) <;> (fail_if_success (have : h = trivial := rfl)) <;> (fail_if_success (have : h = not_false := rfl)) <;> first | contradiction | (exfalso; omega) | (exfalso; revert h; simp; done) | skip) | (refine SL.W.guardB (fun h => ?_) (fun h => ?_) <;> (fail_if_success (have : h = (rfl : true = true) := rfl)) <;> (fail_if_success (have : h = (rfl : false = false) := rfl)))) | (refine SL.W.loud ?_; first | refine SL.W.load ?_ | refine SL.W.loadA ?_ | refine SL.W.store ?_ | refine SL.W.storeA ?_ | (refine SL.W.box ?_; intro b) | (refine SL.W.alloc ?_; intro b) | (refine SL.W.buildSlice ?_; intro b) | (refine SL.W.append ?_; intro a cap) | refine SL.W.bytesToStr ?_ | refine SL.W.pvn (SL.PV.toIntC (by rfl) (by first | exact SL.wrap_i64 (by omega) | exact SL.wrap_u8 (by omega) | exact SL.wrap_u32 (by omega) | exact SL.wrap_u64 (by omega) | rfl)) ?_ | (refine SL.W.makeSlice ?_; intro b) | refine SL.W.lookupOk ?_ | refine SL.W.lookup ?_ | (refine SL.W.makeMap ?_; intro b) | refine SL.W.mapUpdate ?_ | (refine SL.W.mapEntry ?_; intro stamp) | refine SL.W.entryStore ?_ | (refine SL.W.range ?_; intro it) | refine SL.W.delete ?_ | (refine SL.W.guardP (fun h => ?_) (fun h => ?_) <;> (fail_if_success (have : h = trivial := rfl)) <;> (fail_if_success (have : h = not_false := rfl)) <;> first | contradiction | (exfalso; omega) | (exfalso; revert h; simp; done) | skip) | (refine SL.W.guardB (fun h => ?_) (fun h => ?_) <;> (fail_if_success (have : h = (rfl : true = true) := rfl)) <;> (fail_if_success (have : h = (rfl : false = false) := rfl))))) | (refine SL.TK.is ?_; first | refine SL.TK.seq ?_ | refine SL.TK.region ?_ | refine SL.TK.regionD SL.mixed (by simp only [SL.falses] <;> rfl) ?_ | refine SL.TK.block ?_ | refine SL.TK.inBlock ?_ | refine SL.TK.skip ?_ | refine SL.TK.scope ?_ | refine SL.TK.inScope ?_ | refine SL.TK.label ?_ | refine SL.W.exit ?_ | refine SL.W.condT ?_ | refine SL.W.condF ?_ | (refine SL.W.condP (fun h => ?_) (fun h => ?_) <;> (fail_if_success (have : h = trivial := rfl)) <;> (fail_if_success (have : h = not_false := rfl)) <;> first | contradiction | (exfalso; omega) | (exfalso; revert h; simp; done) | skip) | refine SL.W.condB (fun h => ?_) (fun h => ?_)) | (refine SL.TD.is ?_; first | refine SL.W.dloadN (hnth.out _) ?_ | refine SL.W.dloadAN (hcut.out _) ?_ | (refine SL.W.dfin ?_; simp only [List.append_nil, List.cons_append, List.nil_append]) | refine SL.W.dpass ?_ | refine SL.W.dpure ?_ | refine SL.W.dload ?_ | refine SL.W.dloadA ?_ | refine SL.W.dfrz ?_ | (refine SL.W.dthaw ?_; simp only [List.append_nil, List.cons_append, List.nil_append]) | (refine SL.W.dguardP (fun h => ?_) (fun h => ?_) <;> (fail_if_success (have : h = trivial := rfl)) <;> (fail_if_success (have : h = not_false := rfl)) <;> first | contradiction | (exfalso; omega) | (exfalso; revert h; simp; done) | skip) | (refine SL.W.dguardB (fun h => ?_) (fun h => ?_) <;> (fail_if_success (have : h = (rfl : true = true) := rfl)) <;> (fail_if_success (have : h = (rfl : false = false) := rfl))) | refine SL.W.done ?_ | refine SL.W.dtwo ?_ ?_ | refine SL.W.dthree ?_ ?_ ?_))
      all_goals exact SL.TK.retD Try.func11 (SL.Res.one rfl (by rfl)) ⟨rfl, rfl⟩ EntD.nil
    · repeat' (first | (refine SL.TO.is ?_; first | (refine SL.TO.door (o := ⟨_, .call ⟨.builtin .append, _, _⟩, _, _, _, _⟩) ?_; first | (refine SL.TO.appendGrow (by rfl) (by rfl) (by rfl) (by rfl) (by rfl) (by first | ((repeat (first | exact SL.Pick.head | apply SL.Pick.tail)); done) | fail) hpkH.out (by first | exact SL.Src.nil | exact SL.Src.sl (by first | ((repeat (first | exact SL.Pick.head | apply SL.Pick.tail)); done) | fail) (by omega) (by omega) (by assumption) | exact SL.Src.own (by first | ((repeat (first | exact SL.Pick.head | apply SL.Pick.tail)); done) | fail) (by first | rfl | assumption | simp) | exact SL.Src.blk (by first | ((repeat (first | exact SL.Pick.head | apply SL.Pick.tail)); done) | fail) (by first | ((repeat (first | exact SL.Cut.zero _ | apply SL.Cut.take | apply SL.Cut.drop)); done) | fail) | exact SL.Rd.src (by assumption) rfl (by first | ((repeat (first | exact SL.Pick.head | apply SL.Pick.tail)); done) | fail)) (by first | assumption | simp [Go.Value.oneCell']) (by decide) (by omega) hfit rfl hPLH.out ?_; intro b2 c2)) | (refine SL.TO.door (o := ⟨_, .call ⟨.value (.func 25), _, _⟩, _, _, _, _⟩) ?_; first | (refine SL.W.call (N2.out _ _) ?_; rintro _ _ ⟨rfl, rfl⟩; try simp only [List.cons_append, List.nil_append])) | refine SL.TO.nil ?_ | (refine SL.TO.nilD ?_; simp only [SL.setB]) | refine SL.W.pass ?_ | refine SL.W.pass0 ?_ | (refine SL.W.pure ?_; first | refine SL.W.pv ?_ | refine SL.W.pv0 ?_ | refine SL.W.lenMp ?_ | (refine SL.W.guardP (fun h => ?_) (fun h => ?_) <;> (fail_if_success (have : h = trivial := rfl)) <;> (fail_if_success (have : h = not_false := rfl)) <;> first | contradiction | (exfalso; omega) | (exfalso; revert h; simp; done) | skip) | (refine SL.W.guardB (fun h => ?_) (fun h => ?_) <;> (fail_if_success (have : h = (rfl : true = true) := rfl)) <;> (fail_if_success (have : h = (rfl : false = false) := rfl)))) | (refine SL.W.loud ?_; first | refine SL.W.load ?_ | refine SL.W.loadA ?_ | refine SL.W.store ?_ | refine SL.W.storeA ?_ | (refine SL.W.box ?_; intro b) | (refine SL.W.alloc ?_; intro b) | (refine SL.W.buildSlice ?_; intro b) | (refine SL.W.append ?_; intro a cap) | refine SL.W.bytesToStr ?_ | refine SL.W.pvn (SL.PV.toIntC (by rfl) (by first | exact SL.wrap_i64 (by omega) | exact SL.wrap_u8 (by omega) | exact SL.wrap_u32 (by omega) | exact SL.wrap_u64 (by omega) | rfl)) ?_ | (refine SL.W.makeSlice ?_; intro b) | refine SL.W.lookupOk ?_ | refine SL.W.lookup ?_ | (refine SL.W.makeMap ?_; intro b) | refine SL.W.mapUpdate ?_ | (refine SL.W.mapEntry ?_; intro stamp) | refine SL.W.entryStore ?_ | (refine SL.W.range ?_; intro it) | refine SL.W.delete ?_ | (refine SL.W.guardP (fun h => ?_) (fun h => ?_) <;> (fail_if_success (have : h = trivial := rfl)) <;> (fail_if_success (have : h = not_false := rfl)) <;> first | contradiction | (exfalso; omega) | (exfalso; revert h; simp; done) | skip) | (refine SL.W.guardB (fun h => ?_) (fun h => ?_) <;> (fail_if_success (have : h = (rfl : true = true) := rfl)) <;> (fail_if_success (have : h = (rfl : false = false) := rfl))))) | (refine SL.TK.is ?_; first | (refine SL.TK.atR (id := 15) ?_; refine Stop.out ?_) | refine SL.TK.seq ?_ | refine SL.TK.region ?_ | refine SL.TK.regionD SL.mixed (by simp only [SL.falses] <;> rfl) ?_ | refine SL.TK.block ?_ | refine SL.TK.inBlock ?_ | refine SL.TK.skip ?_ | refine SL.TK.scope ?_ | refine SL.TK.inScope ?_ | refine SL.TK.label ?_ | refine SL.W.exit ?_ | refine SL.W.condT ?_ | refine SL.W.condF ?_ | (refine SL.W.condP (fun h => ?_) (fun h => ?_) <;> (fail_if_success (have : h = trivial := rfl)) <;> (fail_if_success (have : h = not_false := rfl)) <;> first | contradiction | (exfalso; omega) | (exfalso; revert h; simp; done) | skip) | refine SL.W.condB (fun h => ?_) (fun h => ?_)) | (refine SL.TD.is ?_; first | (refine SL.W.dfin ?_; simp only [List.append_nil, List.cons_append, List.nil_append]) | refine SL.W.dpass ?_ | refine SL.W.dpure ?_ | refine SL.W.dload ?_ | refine SL.W.dloadA ?_ | refine SL.W.dfrz ?_ | (refine SL.W.dthaw ?_; simp only [List.append_nil, List.cons_append, List.nil_append]) | (refine SL.W.dguardP (fun h => ?_) (fun h => ?_) <;> (fail_if_success (have : h = trivial := rfl)) <;> (fail_if_success (have : h = not_false := rfl)) <;> first | contradiction | (exfalso; omega) | (exfalso; revert h; simp; done) | skip) | (refine SL.W.dguardB (fun h => ?_) (fun h => ?_) <;> (fail_if_success (have : h = (rfl : true = true) := rfl)) <;> (fail_if_success (have : h = (rfl : false = false) := rfl))) | refine SL.W.done ?_ | refine SL.W.dtwo ?_ ?_ | refine SL.W.dthree ?_ ?_ ?_))
      refine Stop.mk ?_
      clear N2
      repeat' (first | (refine SL.TO.is ?_; first | (refine SL.TO.door (o := ⟨_, .call ⟨.value (.func 25), _, _⟩, _, _, _, _⟩) ?_; first | (refine SL.W.call (N3.out _ _) ?_; rintro _ _ ⟨rfl, rfl⟩; try simp only [List.cons_append, List.nil_append]) | (refine SL.W.call (N4.out _ _) ?_; rintro _ _ ⟨rfl, rfl⟩; try simp only [List.cons_append, List.nil_append])) | (refine SL.TO.door (o := ⟨_, .call ⟨.value (.func 30), _, _⟩, _, _, _, _⟩) ?_; first | (refine SL.W.call (A2.out _) ?_; rintro _ _ ⟨a5, c5, cs5, rfl, rfl⟩; try simp only [List.cons_append, List.nil_append])) | (refine SL.TO.door (o := ⟨_, .call ⟨.value (.func 28), _, _⟩, _, _, _, _⟩) ?_; first | (refine SL.W.call (D1.out _) ?_; rintro _ _ ⟨rfl, rfl⟩; try simp only [List.cons_append, List.nil_append]) | (refine SL.W.call (D2.out _) ?_; rintro _ _ ⟨rfl, rfl⟩; try simp only [List.cons_append, List.nil_append])) | (refine SL.TO.door (o := ⟨_, .call ⟨.value (.func 27), _, _⟩, _, _, _, _⟩) ?_; first | (refine SL.W.call (S5.out _) ?_; rintro _ _ ⟨rfl, rfl⟩; try simp only [List.cons_append, List.nil_append])) | (refine SL.TO.door (o := ⟨_, .call ⟨.value (.func 29), _, _⟩, _, _, _, _⟩) ?_; first | (refine SL.W.call (hW.out) ?_; rintro _ _ ⟨rfl, rfl⟩; try simp only [List.cons_append, List.nil_append])) | (refine SL.TO.door (o := ⟨_, .load _ _, _, _, _, _⟩) ?_; first | refine SL.W.loadN (hnth.out _) ?_ | refine SL.W.loadAN (hcut.out _) ?_) | refine SL.TO.nil ?_ | (refine SL.TO.nilD ?_; simp only [SL.setB]) | refine SL.W.pass ?_ | refine SL.W.pass0 ?_ | (refine SL.W.pure ?_; first | refine SL.W.pv ?_ | refine SL.W.pv0 ?_ | refine SL.W.lenMp ?_ | (refine SL.W.guardP (fun h => ?_) (fun h => ?_) <;> (fail_if_success (have : h = trivial := rfl)) <;> (fail_if_success (have : h = not_false := rfl)) <;> first | contradiction | (exfalso; omega) | (exfalso; revert h; simp; done) | skip) | (refine SL.W.guardB (fun h => ?_) (fun h => ?_) <;> (fail_if_success (have : h = (rfl : true = true) := rfl)) <;> (fail_if_success (have : h = (rfl : false = false) := rfl)))) | (refine SL.W.loud ?_; first | refine SL.W.load ?_ | refine SL.W.loadA ?_ | refine SL.W.store ?_ | refine SL.W.storeA ?_ | (refine SL.W.box ?_; intro b) | (refine SL.W.alloc ?_; intro b) | (refine SL.W.buildSlice ?_; intro b) | (refine SL.W.append ?_; intro a cap) | refine SL.W.bytesToStr ?_ | refine SL.W.pvn (SL.PV.toIntC (by rfl) (by first | exact SL.wrap_i64 (by omega) | exact SL.wrap_u8 (by omega) | exact SL.wrap_u32 (by omega) | exact SL.wrap_u64 (by omega) | rfl)) ?_ | (refine SL.W.makeSlice ?_; intro b) | refine SL.W.lookupOk ?_ | refine SL.W.lookup ?_ | (refine SL.W.makeMap ?_; intro b) | refine SL.W.mapUpdate ?_ | (refine SL.W.mapEntry ?_; intro stamp) | refine SL.W.entryStore ?_ | (refine SL.W.range ?_; intro it) | refine SL.W.delete ?_ | (refine SL.W.guardP (fun h => ?_) (fun h => ?_) <;> (fail_if_success (have : h = trivial := rfl)) <;> (fail_if_success (have : h = not_false := rfl)) <;> first | contradiction | (exfalso; omega) | (exfalso; revert h; simp; done) | skip) | (refine SL.W.guardB (fun h => ?_) (fun h => ?_) <;> (fail_if_success (have : h = (rfl : true = true) := rfl)) <;> (fail_if_success (have : h = (rfl : false = false) := rfl))))) | (refine SL.TK.is ?_; first | refine SL.TK.seq ?_ | refine SL.TK.region ?_ | refine SL.TK.regionD SL.mixed (by simp only [SL.falses] <;> rfl) ?_ | refine SL.TK.block ?_ | refine SL.TK.inBlock ?_ | refine SL.TK.skip ?_ | refine SL.TK.scope ?_ | refine SL.TK.inScope ?_ | refine SL.TK.label ?_ | refine SL.W.exit ?_ | refine SL.W.condT ?_ | refine SL.W.condF ?_ | (refine SL.W.condP (fun h => ?_) (fun h => ?_) <;> (fail_if_success (have : h = trivial := rfl)) <;> (fail_if_success (have : h = not_false := rfl)) <;> first | contradiction | (exfalso; omega) | (exfalso; revert h; simp; done) | skip) | refine SL.W.condB (fun h => ?_) (fun h => ?_)) | (refine SL.TD.is ?_; first | refine SL.W.dloadN (hnth.out _) ?_ | refine SL.W.dloadAN (hcut.out _) ?_ | (refine SL.W.dfin ?_; simp only [List.append_nil, List.cons_append, List.nil_append]) | refine SL.W.dpass ?_ | refine SL.W.dpure ?_ | refine SL.W.dload ?_ | refine SL.W.dloadA ?_ | refine SL.W.dfrz ?_ | (refine SL.W.dthaw ?_; simp only [List.append_nil, List.cons_append, List.nil_append]) | (refine SL.W.dguardP (fun h => ?_) (fun h => ?_) <;> (fail_if_success (have : h = trivial := rfl)) <;> (fail_if_success (have : h = not_false := rfl)) <;> first | contradiction | (exfalso; omega) | (exfalso; revert h; simp; done) | skip) | (refine SL.W.dguardB (fun h => ?_) (fun h => ?_) <;> (fail_if_success (have : h = (rfl : true = true) := rfl)) <;> (fail_if_success (have : h = (rfl : false = false) := rfl))) | refine SL.W.done ?_ | refine SL.W.dtwo ?_ ?_ | refine SL.W.dthree ?_ ?_ ?_))
      all_goals exact SL.TK.retD Try.func11 (SL.Res.one rfl (by rfl)) ⟨rfl, rfl⟩ EntD.nil
end SL

namespace Go.Proofs.Ytpnlenpglmffdaa.leaseKnown
open Go.ChangeShapes Go.WideShapes Go.ChangeAt Go.RowKit

theorem own : ownKnob Try.prog.godebug = none := by kernel_rfl
theorem laid : laidOutB Try.prog = true := by kernel_rfl

theorem contract (H : Type) (enc : TypeId × Value → H) (W : World) (base : Nat) (args : Array Value) (ds gs : List (DataW H)) (before : List MemPlace)
    (hval : ∀ (j : Nat) t v, Try.f11.params[j]? = some t → args[j]? = some v → Value.okWide Try.prog W .any base t v)
    (hW : DataW.Whole enc Try.prog Try.f11.params.toList Rows.leaseKnownSpec.vars false W args.toList ds gs before) :
    Calls Try.prog 11 args W fun e W' => ∃ v, e = .returned v ∧ Rows.leaseKnownSpec.post enc Try.prog Try.f11 false true false false W args v W' := by
  have hW' := hW
  obtain ⟨p, q, hA0, hV, rfl, hfz, hnd⟩ := hW
  have hA : DataW.TrodAll enc Try.prog W 0 (fun _ => true) true Try.f11.params.toList args.toList ds p := hA0
  rw [Try.params11] at hA hval
  obtain ⟨hargs, rfl, rfl⟩ := trodAll_nil hA
  obtain rfl : args = #[] := by cases args; simp_all
  obtain ⟨rfl, rfl⟩ := trodVars_none hV
  refine SL.law_calls (ds := []) (gs := []) laid (by kernel_rfl) rfl rfl rfl (by kernel_rfl) hW' ?_
  exact SL.Spec.framed0 SL.known_spec

set_option maxRecDepth 100000 in
theorem lifted (os : Os) (started : os.Started) (H : Type) (enc : TypeId × Value → H) :
    ReturnsInHanded {} Try.checked os 11 .any (Rows.leaseKnownSpec.pre6 enc Try.prog Try.f11 [] false) (Rows.leaseKnownSpec.post enc Try.prog Try.f11 false true false false) := by
  refine returnsInHanded_of_change own started (by kernel_rfl) Try.func11
    (ChangeSpec.witness6 false ⟨#[], #[], []⟩ 8 (by kernel_rfl) (by kernel_rfl) (by kernel_rfl) (by kernel_rfl)) ?_
  intro W base args ds gs before hval hW _ _
  exact contract H enc W base args ds gs before hval hW

theorem proved : Rows.LeaseKnownSaid :=
  OpenClaim.holds_of_wide 11 Try.f11 rfl rfl rfl rfl rfl rfl rfl ⟨rfl, rfl, rfl, rfl, rfl⟩ rfl rfl rfl rfl rfl (by kernel_rfl) Try.func11 (by kernel_rfl)
    (of_decide_eq_true (by kernel_rfl)) (by unfold Func.isWrapper; first | (rw [if_pos (by decide +kernel)]; kernel_rfl) | (rw [if_neg (by decide +kernel)]; exact ⟨rfl, rfl⟩))
    (fun os started H enc _ => lifted os started H enc)
end Go.Proofs.Ytpnlenpglmffdaa.leaseKnown
