/-
  Chapter 29: what a frame and a net are in memory.
-/
import Derived.Test.YtidogcbcknpdiaaTy
set_option linter.unusedVariables false
set_option linter.unusedSimpArgs false
namespace SL
open Go

structure Fr where
  c1 : Bool
  n1 : Int
  c2 : Bool
  n2 : Int
  bs : List UInt8

/-- a frame's cells; its bytes are the slice (a, length, cap) -/
def frV (f : Fr) (s : Option Addr × Nat) : List Value := [.bool f.c1, .int .u32 f.n1, .bool f.c2, .int .u32 f.n2, .slice s.1 f.bs.length s.2]
/-- a slice that owns bytes -/
abbrev byt (s : Option Addr × Nat) (bs : List UInt8) : HProp := own 5 1 s.1 bs.length s.2 (bs.map byteV)

abbrev Frs := List (Fr × (Option Addr × Nat))
def cellsP : Frs → List Value
  | [] => []
  | p :: l => frV p.1 p.2 ++ cellsP l
def framesP (l : Frs) : List HProp := l.map fun p => byt p.2 p.1.bs
theorem cellsP_length (l : Frs) : (cellsP l).length = l.length * 5 := by
  induction l with
  | nil => rfl
  | cons p l ih => simp [cellsP, frV, ih, Nat.add_mul]
theorem cellsP_append (l m : Frs) : cellsP (l ++ m) = cellsP l ++ cellsP m := by
  induction l with
  | nil => rfl
  | cons p l ih => simp [cellsP, ih]
theorem one_cellsP (l : Frs) : ∀ v ∈ cellsP l, v.oneCell' = true := by
  induction l with
  | nil => simp [cellsP]
  | cons p l ih =>
    intro v hv
    simp only [cellsP, frV, List.cons_append, List.nil_append, List.mem_cons] at hv
    rcases hv with rfl | rfl | rfl | rfl | rfl | hv <;> first | rfl | exact ih _ hv
/-- the frames of a slice -/
def FrSl (a : Option Addr) (cap : Nat) (l : List Fr) : HProp := ex fun fs : Frs => seps [fact (fs.map (·.1) = l), own 31 5 a l.length cap (cellsP fs), seps (framesP fs)]
/-- a net that was made, at block nb -/
def NetAt (nb : Nat) (l : List Fr) : HProp := ex fun p : Option Addr × Nat => seps [blk nb 65 [.slice p.1 l.length p.2, .bool true], FrSl p.1 p.2 l]

section
variable {P : Program} {fid n : Nat} {post : Post} {k : List Item} {ρ : Env} {L L' r : List HProp}

theorem TK.openNet {nb : Nat} {l : List Fr} (hp : Pick L (NetAt nb l) r) (h : ∀ a cap, TK P fid n post k ρ (blk nb 65 [.slice a l.length cap, .bool true] :: FrSl a cap l :: r)) : TK P fid n post k ρ L := by
  unfold NetAt at hp
  exact TK.exC hp fun p => TK.sepsC Pick.head (h p.1 p.2)
theorem TK.openFr {a : Option Addr} {cap : Nat} {l : List Fr} (hp : Pick L (FrSl a cap l) r) (h : ∀ fs : Frs, fs.map (·.1) = l → TK P fid n post k ρ (own 31 5 a l.length cap (cellsP fs) :: seps (framesP fs) :: r)) : TK P fid n post k ρ L := by
  unfold FrSl at hp
  exact TK.exC hp fun fs => TK.sepsC Pick.head (TK.fact Pick.head fun e => h fs e)
theorem Ent.fr {a : Option Addr} {cap m : Nat} {cs : List Value} {l : List Fr} {r' : List HProp} (fs : Frs) (hp : Pick L (own 31 5 a m cap cs) r) (hm : m = l.length) (hc : cs = cellsP fs) (hl : fs.map (·.1) = l)
    (hq : Pick r (seps (framesP fs)) r') (h : Ent r' L') : Ent L (FrSl a cap l :: L') := by
  subst hm hc
  intro hh x
  have x1 := sep_mono (fun _ x => x) (fun _ y => (hq _).1 y) ((hp hh).1 x)
  have x2 := sep_assoc.2 x1
  exact sep_mono (fun h' y => ⟨fs, sep_fact.2 ⟨hl, sep_mono (fun _ z => z) (fun _ z => sep_comm (sep_emp.2 z)) y⟩⟩) (fun _ y => h _ y) x2
theorem Ent.net {nb m cap : Nat} {a : Option Addr} {l : List Fr} {r' : List HProp} (hp : Pick L (blk nb 65 [.slice a m cap, .bool true]) r) (hm : m = l.length) (hq : Pick r (FrSl a cap l) r') (h : Ent r' L') : Ent L (NetAt nb l :: L') := by
  subst hm
  intro hh x
  have x1 := sep_mono (fun _ x => x) (fun _ y => (hq _).1 y) ((hp hh).1 x)
  have x2 := sep_assoc.2 x1
  exact sep_mono (fun h' y => ⟨(a, cap), sep_mono (fun _ z => z) (fun _ z => sep_comm (sep_emp.2 z)) y⟩) (fun _ y => h _ y) x2
theorem Ent.framesSnoc {fs : Frs} {f : Fr} {v : Option Addr × Nat} {r' : List HProp} (hp : Pick L (seps (framesP fs)) r) (hq : Pick r (byt v f.bs) r') (h : Ent r' L') : Ent L (seps (framesP (fs ++ [(f, v)])) :: L') := by
  intro hh x
  have x1 := sep_mono (fun _ x => x) (fun _ y => (hq _).1 y) ((hp hh).1 x)
  have x2 := sep_assoc.2 x1
  refine sep_mono (fun h' y => ?_) (fun _ y => h _ y) x2
  unfold framesP
  rw [List.map_append]
  exact seps_append.2 (sep_mono (fun _ z => z) (fun _ z => sep_comm (sep_emp.2 z)) y)
/-- one frame of many -/
theorem frames_pick {fs : Frs} : ∀ {i : Nat} {p : Fr × (Option Addr × Nat)}, fs[i]? = some p → ∀ h, seps (framesP fs) h ↔ sep (byt p.2 p.1.bs) (seps (framesP (fs.eraseIdx i))) h := by
  induction fs with
  | nil => intro i p hi; simp at hi
  | cons q fs ih =>
    intro i p hi h
    cases i with
    | zero => simp at hi; subst hi; simp [framesP, seps]
    | succ i =>
      have := ih (i := i) (p := p) (by simpa using hi)
      have k : Pick (framesP fs) (byt p.2 p.1.bs) (framesP (fs.eraseIdx i)) := this
      have k2 := Pick.tail (x := byt q.2 q.1.bs) k h
      simpa [framesP] using k2
end
theorem fr_intro {a : Option Addr} {cap m : Nat} {l : List Fr} (fs : Frs) (hfs : fs.map (·.1) = l) (hm : m = l.length) : ∀ h, seps [own 31 5 a m cap (cellsP fs), seps (framesP fs)] h → FrSl a cap l h := by
  subst hm
  intro h x
  exact ⟨fs, sep_fact.2 ⟨hfs, x⟩⟩
theorem net_intro {nb cap m : Nat} {a : Option Addr} {l : List Fr} (fs : Frs) (hfs : fs.map (·.1) = l) (hm : m = l.length) :
    ∀ h, seps [blk nb 65 [.slice a m cap, .bool true], own 31 5 a m cap (cellsP fs), seps (framesP fs)] h → NetAt nb l h := by
  intro h x
  subst hm
  refine ⟨(a, cap), sep_mono (fun _ y => y) (fun h' y => ?_) x⟩
  exact sep_comm (sep_emp.2 (fr_intro fs hfs rfl h' y))
theorem fr_snoc {a : Option Addr} {cap m : Nat} {l : List Fr} {f : Fr} {s : Option Addr × Nat} (fs : Frs) (hfs : fs.map (·.1) = l) (hm : m = l.length + 1) :
    ∀ h, seps [own 31 5 a m cap (cellsP fs ++ frV f s), seps (framesP fs), byt s f.bs] h → FrSl a cap (l ++ [f]) h := by
  intro h x
  refine fr_intro (fs ++ [(f, s)]) (by simp [hfs]) (by simpa using hm) h ?_
  have e : cellsP (fs ++ [(f, s)]) = cellsP fs ++ frV f s := by simp [cellsP_append, cellsP]
  rw [e]
  refine sep_mono (fun _ y => y) (fun h' y => ?_) x
  refine sep_comm (sep_emp.2 ?_)
  unfold framesP
  rw [List.map_append]
  exact seps_append.2 y
theorem net_snoc {nb cap m : Nat} {a : Option Addr} {l : List Fr} {f : Fr} {s : Option Addr × Nat} (fs : Frs) (hfs : fs.map (·.1) = l) (hm : m = l.length + 1) :
    ∀ h, seps [blk nb 65 [.slice a m cap, .bool true], own 31 5 a m cap (cellsP fs ++ frV f s), seps (framesP fs), byt s f.bs] h → NetAt nb (l ++ [f]) h := by
  intro h x
  subst hm
  refine ⟨(a, cap), sep_mono (fun _ y => ?_) (fun h' y => ?_) x⟩
  · simpa using y
  · exact sep_comm (sep_emp.2 (fr_snoc fs hfs rfl h' y))
theorem net_open {nb : Nat} {l : List Fr} {L' : List HProp} : ∀ h, seps (NetAt nb l :: L') h → ∃ x : (Option Addr × Nat) × Frs, x.2.map (·.1) = l ∧
    seps (blk nb 65 [.slice x.1.1 l.length x.1.2, .bool true] :: own 31 5 x.1.1 l.length x.1.2 (cellsP x.2) :: seps (framesP x.2) :: L') h := by
  rintro h ⟨h1, h2, d, rfl, ⟨⟨a, cap⟩, hx⟩, hy⟩
  obtain ⟨h3, h4, d2, rfl, hb, hz⟩ := hx
  obtain ⟨fs, hf⟩ := sep_emp.1 (sep_comm hz)
  obtain ⟨e, ho⟩ := sep_fact.1 hf
  refine ⟨((a, cap), fs), e, ?_⟩
  have x1 : sep (sep (blk nb 65 [.slice a l.length cap, .bool true]) (seps [own 31 5 a l.length cap (cellsP fs), seps (framesP fs)])) (seps L') (join (join h3 h4) h2) := ⟨_, h2, d, rfl, ⟨h3, h4, d2, rfl, hb, ho⟩, hy⟩
  have x2 := sep_assoc.1 x1
  refine sep_mono (fun _ y => y) (fun _ y => ?_) x2
  have := seps_append.2 y
  exact this
theorem net_shut {nb cap m : Nat} {a : Option Addr} {l : List Fr} (hm : m = l.length) : ∀ h, seps [blk nb 65 [.slice a m cap, .bool true], FrSl a cap l] h → NetAt nb l h := by
  subst hm
  intro h x
  exact ⟨(a, cap), x⟩
theorem net_blk {nb b m cap : Nat} {l : List Fr} (fs : Frs) (extra : List Value) (hfs : fs.map (·.1) = l) (hm : m = l.length) (hc : m ≤ cap) (hcap : (cellsP fs ++ extra).length = cap * 5) :
    ∀ h, seps [blk nb 65 [.slice (some ⟨b, 0, none⟩) m cap, .bool true], blk b 31 (cellsP fs ++ extra), seps (framesP fs)] h → NetAt nb l h := by
  intro h x
  refine net_intro fs hfs hm h (sep_mono (fun _ y => y) (fun h' y => sep_mono (fun h'' z => own_blk ?_ hcap hc z) (fun _ z => z) y) x)
  rw [cellsP_length, hm, ← hfs, List.length_map]
theorem net_take {nb b m cap k : Nat} {l : List Fr} {f : Fr} {s : Option Addr × Nat} (fs : Frs) (extra : List Value) (hfs : fs.map (·.1) = l) (hk : fs[k]? = some (f, s)) (hm : m = l.length - 1) (hc : m ≤ cap) (hcap : (cellsP (fs.eraseIdx k) ++ extra).length = cap * 5) :
    ∀ h, seps [blk nb 65 [.slice (some ⟨b, 0, none⟩) m cap, .bool true], blk b 31 (cellsP (fs.eraseIdx k) ++ extra), seps (framesP fs)] h → seps [NetAt nb (l.eraseIdx k), byt s f.bs] h := by
  intro h x
  have hlt : k < fs.length := (List.getElem?_eq_some_iff.1 hk).1
  have x1 := sep_mono (fun _ y => y) (fun _ y => sep_mono (fun _ z => z) (fun _ z => (frames_pick hk _).1 (sep_emp.1 (sep_comm z))) y) x
  -- blk, blk, byt, frames
  have x2 := sep_mono (fun _ y => y) (fun _ y => sep_mono (fun _ z => z) (fun _ z => sep_comm z) y) x1
  have x3 := sep_mono (fun _ y => y) (fun _ y => sep_assoc.2 y) x2
  have x4 := sep_assoc.2 x3
  refine sep_mono (fun h' y => ?_) (fun _ y => sep_comm (sep_emp.2 y)) x4
  refine net_blk (m := m) (l := l.eraseIdx k) (fs.eraseIdx k) extra ?_ ?_ hc hcap h' (sep_mono (fun _ z => z) (fun _ z => sep_mono (fun _ u => u) (fun _ u => sep_comm (sep_emp.2 u)) z) y)
  · rw [← hfs, List.eraseIdx_eq_take_drop_succ, List.eraseIdx_eq_take_drop_succ, List.map_append, List.map_take, List.map_drop]
  · rw [hm, List.length_eraseIdx_of_lt (by rw [← hfs, List.length_map]; exact hlt)]
theorem frames_back {k : Nat} {f : Fr} {s : Option Addr × Nat} {fs : Frs} (hk : fs[k]? = some (f, s)) : ∀ h, seps [byt s f.bs, seps (framesP (fs.eraseIdx k))] h → seps (framesP fs) h :=
  fun h x => (frames_pick hk h).2 (sep_mono (fun _ y => y) (fun _ y => sep_emp.1 (sep_comm y)) x)
theorem TK.pickFr {P : Program} {fid n : Nat} {post : Post} {kk : List Item} {ρ : Env} {L r : List HProp} {k : Nat} {f : Fr} {s : Option Addr × Nat} {fs : Frs} (hp : Pick L (seps (framesP fs)) r) (hk : fs[k]? = some (f, s))
    (h : TK P fid n post kk ρ (byt s f.bs :: seps (framesP (fs.eraseIdx k)) :: r)) : TK P fid n post kk ρ L :=
  TK.ent (L' := byt s f.bs :: seps (framesP (fs.eraseIdx k)) :: r) (fun hh a => sep_assoc.1 (sep_mono (fun _ y => (frames_pick hk _).1 y) (fun _ y => y) ((hp hh).1 a))) h
theorem frames_snoc {f : Fr} {s : Option Addr × Nat} {fs : Frs} : ∀ h, seps [seps (framesP fs), byt s f.bs] h → seps (framesP (fs ++ [(f, s)])) h := by
  intro h x
  unfold framesP
  rw [List.map_append]
  exact seps_append.2 x
theorem cellsP_snoc {f : Fr} {s : Option Addr × Nat} {fs : Frs} : cellsP (fs ++ [(f, s)]) = cellsP fs ++ frV f s := by simp [cellsP_append, cellsP]
theorem own_of_blk {e sz b n cap : Nat} {cs extra : List Value} (h1 : cs.length = n * sz) (h2 : (cs ++ extra).length = cap * sz) (h3 : n ≤ cap) :
    ∀ h, seps [blk b e (cs ++ extra)] h → own e sz (some ⟨b, 0, none⟩) n cap cs h := fun h x => own_blk h1 h2 h3 (sep_emp.1 (sep_comm x))
theorem net_same {nb m cap k : Nat} {a : Option Addr} {l : List Fr} {f : Fr} {s : Option Addr × Nat} (fs : Frs) (hfs : fs.map (·.1) = l) (hm : m = l.length) (hk : fs[k]? = some (f, s)) :
    ∀ h, seps [blk nb 65 [.slice a m cap, .bool true], own 31 5 a m cap (cellsP fs), byt s f.bs, seps (framesP (fs.eraseIdx k))] h → NetAt nb l h := fun h x =>
  net_intro fs hfs hm h (sep_mono (fun _ y => y) (fun _ y => sep_mono (fun _ z => z) (fun _ z => sep_comm (sep_emp.2 (frames_back hk _ z))) y) x)
theorem eraseIdx_set' {α : Type} (l : List α) (k : Nat) (x : α) : (l.set k x).eraseIdx k = l.eraseIdx k := by
  induction l generalizing k with
  | nil => simp
  | cons a l ih => cases k <;> simp [ih]
theorem cellsP_set {f f' : Fr} {s : Option Addr × Nat} (he : frV f' s = frV f s) : ∀ {fs : Frs} {k : Nat}, fs[k]? = some (f, s) → cellsP (fs.set k (f', s)) = cellsP fs
  | [], k, h => by simp at h
  | p :: fs, 0, h => by simp at h; subst h; simp [cellsP, he]
  | p :: fs, k + 1, h => by simp only [List.set_cons_succ, cellsP]; rw [cellsP_set he (by simpa using h)]
theorem net_flip {nb b bb m cap cap2 k : Nat} {l : List Fr} {f : Fr} {bs' : List UInt8} {ex extra : List Value} (fs : Frs) (hfs : fs.map (·.1) = l) (hm : m = l.length) (hk : fs[k]? = some (f, (some ⟨bb, 0, none⟩, cap2)))
    (hc : m ≤ cap) (hcap : (cellsP fs ++ extra).length = cap * 5) (hb : bs'.length = f.bs.length) (hc2 : f.bs.length ≤ cap2) (hcap2 : (f.bs.map byteV ++ ex).length = cap2 * 1) :
    ∀ h, seps [blk nb 65 [.slice (some ⟨b, 0, none⟩) m cap, .bool true], blk b 31 (cellsP fs ++ extra), blk bb 5 (bs'.map byteV ++ ex), seps (framesP (fs.eraseIdx k))] h → NetAt nb (l.set k { f with bs := bs' }) h := by
  intro h x
  have hset : (fs.set k ({ f with bs := bs' }, (some ⟨bb, 0, none⟩, cap2)))[k]? = some ({ f with bs := bs' }, (some ⟨bb, 0, none⟩, cap2)) := by
    have hlt : k < fs.length := (List.getElem?_eq_some_iff.1 hk).1
    simp [hlt]
  have hcell : cellsP (fs.set k ({ f with bs := bs' }, (some ⟨bb, 0, none⟩, cap2))) = cellsP fs := cellsP_set (by simp [frV, hb]) hk
  refine net_same (a := some ⟨b, 0, none⟩) (cap := cap) (m := m) (fs.set k ({ f with bs := bs' }, (some ⟨bb, 0, none⟩, cap2))) (by rw [List.map_set, hfs]) (by rw [hm, List.length_set]) hset h ?_
  rw [hcell, eraseIdx_set']
  refine sep_mono (fun _ y => y) (fun _ y => sep_mono (fun _ z => own_blk ?_ hcap hc z) (fun _ z => sep_mono (fun _ u => own_blk (n := bs'.length) (by simp) ?_ (by rw [hb]; exact hc2) u) (fun _ u => u) z) y) x
  · rw [cellsP_length, hm, ← hfs, List.length_map]
  · rw [← hcap2]; simp [hb]
theorem net_dbl {nb m cap k : Nat} {a : Option Addr} {l : List Fr} {f : Fr} {s s' : Option Addr × Nat} (fs : Frs) (hfs : fs.map (·.1) = l) (hm : m = l.length + 1) (hk : fs[k]? = some (f, s)) :
    ∀ h, seps [blk nb 65 [.slice a m cap, .bool true], own 31 5 a m cap (cellsP fs ++ frV f s'), byt s' f.bs, byt s f.bs, seps (framesP (fs.eraseIdx k))] h → NetAt nb (l ++ [f]) h := by
  intro h x
  refine net_snoc (s := s') fs hfs hm h (sep_mono (fun _ y => y) (fun _ y => sep_mono (fun _ z => z) (fun _ z => ?_) y) x)
  have z1 := sep_mono (fun _ u => u) (fun _ u => frames_back hk _ u) z
  exact sep_mono (fun _ u => u) (fun _ u => sep_comm (sep_emp.2 u)) (sep_comm z1)
theorem cellsP_cut {fs : Frs} {extra : List Value} : ∀ {i : Nat} {p : Fr × (Option Addr × Nat)}, fs[i]? = some p → Cut (cellsP fs ++ extra) (i * 5) 5 (frV p.1 p.2) := by
  induction fs with
  | nil => intro i p hi; simp at hi
  | cons q fs ih =>
    intro i p hi
    cases i with
    | zero =>
      simp at hi
      subst hi
      refine ⟨rfl, fun j v hj => ?_⟩
      have hlt : j < 5 := (List.getElem?_eq_some_iff.1 hj).1
      simp only [cellsP, Nat.zero_mul, Nat.zero_add, List.append_assoc]
      rw [List.getElem?_append_left (by simpa [frV] using hlt)]
      exact hj
    | succ i =>
      obtain ⟨h1, h2⟩ := ih (i := i) (p := p) (by simpa using hi)
      refine ⟨h1, fun j v hj => ?_⟩
      have := h2 j v hj
      simp only [cellsP, List.append_assoc]
      rw [List.getElem?_append_right (by simp [frV]; omega)]
      rw [show (i + 1) * 5 + j - (frV q.1 q.2).length = i * 5 + j from by simp [frV]; omega]
      exact this
theorem one_byteV (bs : List UInt8) : ∀ v ∈ bs.map byteV, v.oneCell' = true := by
  intro v hv
  simp only [List.mem_map] at hv
  obtain ⟨b, _, rfl⟩ := hv
  rfl
end SL
