/-
  No cell of these rows narrows 'for every input' (looked for: loops, veiled, ifaces, maps, wideKeys, modest, calm, conditions, laid).
  DERIVED. THE GIVEN ROWS OF THIS SEAT. 5 by the template 'for every input the law returns true; each argument reads behind the call as it read before'; 0 by the template 'total and deterministic' (their statements: YtmnolaklpihmnaaTotals.lean).
  GIVEN WITH THE SEED: the statements are not yours to turn. If you find one false, say at which input.
  Laid BY PROGRAM, IN A SANDBOX (cutbox-rows.mjs): the forced cells as the released guide's own fill.sh prints them over the translation 8de44e894aa6d146… (all of the seat's roots in one cut). By AI agents, Wed Nov 11 2026. No macro, syntax, notation, axiom, sorry.
-/
import Derived.Test.YtmnolaklpihmnaaChecked
import GoSem.Claim
import GoSem.ClaimJoined
import GoSem.ClaimMapViews
import Derived.JoinedTies
import Derived.KernelRfl
namespace Go.Proofs.Ytmnolaklpihmnaa
/- THE CELL 'sum', in the pinned program and in every row, IS THE sha256 OF THE DUMP (.gsa) THAT YtmnolaklpihmnaaProg.lean LOADS. Nothing in Lean hashes anything: it is a label: what it is worth is what the hold of that sum in a sandbox is worth. -/
noncomputable def Try.pinned : Pinned := { name := "ytmnolaklpihmnaa", sum := "8de44e894aa6d1468d3bb65ade49c44cb979268006c6cf19800a0be8c1320774", checked := Try.checked }
namespace Rows
def none {H : Type} : Left H := { results := [], args := [] }

/-- 'copybooklaw17.OnceOnly': WHATEVER THE INPUT: true; the input reads as it did. -/
def onceOnlySpec : ChangeSpec := { name := "onceOnly", fn := fun _ => fun
  | [d] => { results := [.lit (.bool true)], args := [d] }
  | _ => none }
def onceOnlyRow : OpenClaim := { program := "ytmnolaklpihmnaa", sum := "8de44e894aa6d1468d3bb65ade49c44cb979268006c6cf19800a0be8c1320774", func := "copybook/copybooklaw17.OnceOnly", spec := "onceOnly", recurses := true, plainKeys := false, apart := false }
def OnceOnlySaid : Prop := onceOnlyRow.holds Try.pinned (OpenSpec.ofChange onceOnlySpec)

/-- ITS FALSE NEIGHBOUR: 'it returns false'. Refute it at one input. -/
def onceOnlyWrong : ChangeSpec := { name := "onceOnly", fn := fun _ => fun
  | [d] => { results := [.lit (.bool false)], args := [d] }
  | _ => none }
def OnceOnlyWrongFalsely : Prop := onceOnlyRow.holds Try.pinned (OpenSpec.ofChange onceOnlyWrong)

/-- 'copybooklaw17.OnceApart': WHATEVER THE INPUT: true; the input reads as it did. -/
def onceApartSpec : ChangeSpec := { name := "onceApart", fn := fun _ => fun
  | [d1, d2] => { results := [.lit (.bool true)], args := [d1, d2] }
  | _ => none }
def onceApartRow : OpenClaim := { program := "ytmnolaklpihmnaa", sum := "8de44e894aa6d1468d3bb65ade49c44cb979268006c6cf19800a0be8c1320774", func := "copybook/copybooklaw17.OnceApart", spec := "onceApart", unfollowed := true, recurses := true, plainKeys := false, apart := false }
def OnceApartSaid : Prop := onceApartRow.holds Try.pinned (OpenSpec.ofChange onceApartSpec)

/-- ITS FALSE NEIGHBOUR: 'it returns false'. Refute it at one input. -/
def onceApartWrong : ChangeSpec := { name := "onceApart", fn := fun _ => fun
  | [d1, d2] => { results := [.lit (.bool false)], args := [d1, d2] }
  | _ => none }
def OnceApartWrongFalsely : Prop := onceApartRow.holds Try.pinned (OpenSpec.ofChange onceApartWrong)

/-- 'copybooklaw17.OnceBack': WHATEVER THE INPUT: true; the input reads as it did. -/
def onceBackSpec : ChangeSpec := { name := "onceBack", fn := fun _ => fun
  | [d1, d2, d3] => { results := [.lit (.bool true)], args := [d1, d2, d3] }
  | _ => none }
def onceBackRow : OpenClaim := { program := "ytmnolaklpihmnaa", sum := "8de44e894aa6d1468d3bb65ade49c44cb979268006c6cf19800a0be8c1320774", func := "copybook/copybooklaw17.OnceBack", spec := "onceBack", unfollowed := true, recurses := true, plainKeys := false, apart := false }
def OnceBackSaid : Prop := onceBackRow.holds Try.pinned (OpenSpec.ofChange onceBackSpec)

/-- ITS FALSE NEIGHBOUR: 'it returns false'. Refute it at one input. -/
def onceBackWrong : ChangeSpec := { name := "onceBack", fn := fun _ => fun
  | [d1, d2, d3] => { results := [.lit (.bool false)], args := [d1, d2, d3] }
  | _ => none }
def OnceBackWrongFalsely : Prop := onceBackRow.holds Try.pinned (OpenSpec.ofChange onceBackWrong)

/-- 'copybooklaw17.OnceKnown': WHATEVER THE INPUT: true; the input reads as it did. -/
def onceKnownSpec : ChangeSpec := { name := "onceKnown", fn := fun _ => fun
  | [] => { results := [.lit (.bool true)], args := [] }
  | _ => none }
def onceKnownRow : OpenClaim := { program := "ytmnolaklpihmnaa", sum := "8de44e894aa6d1468d3bb65ade49c44cb979268006c6cf19800a0be8c1320774", func := "copybook/copybooklaw17.OnceKnown", spec := "onceKnown", unfollowed := true, recurses := true, plainKeys := false, apart := false }
def OnceKnownSaid : Prop := onceKnownRow.holds Try.pinned (OpenSpec.ofChange onceKnownSpec)

/-- ITS FALSE NEIGHBOUR: 'it returns false'. Refute it at one input. -/
def onceKnownWrong : ChangeSpec := { name := "onceKnown", fn := fun _ => fun
  | [] => { results := [.lit (.bool false)], args := [] }
  | _ => none }
def OnceKnownWrongFalsely : Prop := onceKnownRow.holds Try.pinned (OpenSpec.ofChange onceKnownWrong)

/-- 'copybooklaw17.OncePlays': WHATEVER THE INPUT: true; the input reads as it did. -/
def oncePlaysSpec : ChangeSpec := { name := "oncePlays", fn := fun _ => fun
  | [d] => { results := [.lit (.bool true)], args := [d] }
  | _ => none }
def oncePlaysRow : OpenClaim := { program := "ytmnolaklpihmnaa", sum := "8de44e894aa6d1468d3bb65ade49c44cb979268006c6cf19800a0be8c1320774", func := "copybook/copybooklaw17.OncePlays", spec := "oncePlays", unfollowed := true, recurses := true, plainKeys := false, apart := false }
def OncePlaysSaid : Prop := oncePlaysRow.holds Try.pinned (OpenSpec.ofChange oncePlaysSpec)

/-- ITS FALSE NEIGHBOUR: 'it returns false'. Refute it at one input. -/
def oncePlaysWrong : ChangeSpec := { name := "oncePlays", fn := fun _ => fun
  | [d] => { results := [.lit (.bool false)], args := [d] }
  | _ => none }
def OncePlaysWrongFalsely : Prop := oncePlaysRow.holds Try.pinned (OpenSpec.ofChange oncePlaysWrong)

/- THE SECOND FORM. 'bulk': how many values and letters a reading holds, each counted each time it is reached (what is shared counts as often as it is met; a slice's spare places count too). A statement '..UptoSaid' is the law's where the arguments, and the package variables that the reading takes, are together of bulk at most 1048576: NARROWER than '..Said'. Prove '..Said' where nothing that the law and all that it calls make is longer than what came in: it says more and counts as full. Else prove '..UptoSaid'. A law counts once. -/
mutual
def uptoBulk {H : Type} : DataW H → Nat
  | .lit (.string bytes) => bytes.length + 1
  | .lit _ => 1
  | .nil => 1
  | .ptr d => uptoBulk d + 1
  | .slice elems spare => uptoBulkAll elems + uptoBulkAll spare + 1
  | .agg parts => uptoBulkAll parts + 1
  | .iface _ d => uptoBulk d + 1
  | .map entries => uptoBulkEntries entries + 1
  | .held _ => 1
def uptoBulkAll {H : Type} : List (DataW H) → Nat
  | [] => 0
  | d :: r => uptoBulk d + uptoBulkAll r
def uptoBulkEntries {H : Type} : List (Lit × DataW H) → Nat
  | [] => 0
  | x :: r => uptoBulkEntry x + uptoBulkEntries r
def uptoBulkEntry {H : Type} : Lit × DataW H → Nat
  | (.string bytes, d) => bytes.length + uptoBulk d + 1
  | (_, d) => uptoBulk d + 1
 end
def uptoSmall : (H : Type) → List (DataW H) → Bool := fun _ ds => decide (uptoBulkAll ds ≤ 1048576)
def OpenSpec.upto (s : _root_.Go.ChangeSpec) : _root_.Go.OpenSpec := { _root_.Go.OpenSpec.ofChange s with cond := some uptoSmall }

/-- 'copybooklaw17.OnceOnly', WHERE WHAT IT READS IS OF BULK AT MOST 1048576: true; the input reads as it did. -/
def onceOnlyUptoRow : OpenClaim := { program := "ytmnolaklpihmnaa", sum := "8de44e894aa6d1468d3bb65ade49c44cb979268006c6cf19800a0be8c1320774", func := "copybook/copybooklaw17.OnceOnly", spec := "onceOnly", recurses := true, plainKeys := false, apart := false, narrowed := true }
def OnceOnlyUptoSaid : Prop := onceOnlyUptoRow.holds Try.pinned (OpenSpec.upto onceOnlySpec)

/-- 'copybooklaw17.OnceApart', WHERE WHAT IT READS IS OF BULK AT MOST 1048576: true; the input reads as it did. -/
def onceApartUptoRow : OpenClaim := { program := "ytmnolaklpihmnaa", sum := "8de44e894aa6d1468d3bb65ade49c44cb979268006c6cf19800a0be8c1320774", func := "copybook/copybooklaw17.OnceApart", spec := "onceApart", unfollowed := true, recurses := true, plainKeys := false, apart := false, narrowed := true }
def OnceApartUptoSaid : Prop := onceApartUptoRow.holds Try.pinned (OpenSpec.upto onceApartSpec)

/-- 'copybooklaw17.OnceBack', WHERE WHAT IT READS IS OF BULK AT MOST 1048576: true; the input reads as it did. -/
def onceBackUptoRow : OpenClaim := { program := "ytmnolaklpihmnaa", sum := "8de44e894aa6d1468d3bb65ade49c44cb979268006c6cf19800a0be8c1320774", func := "copybook/copybooklaw17.OnceBack", spec := "onceBack", unfollowed := true, recurses := true, plainKeys := false, apart := false, narrowed := true }
def OnceBackUptoSaid : Prop := onceBackUptoRow.holds Try.pinned (OpenSpec.upto onceBackSpec)

/-- 'copybooklaw17.OnceKnown', WHERE WHAT IT READS IS OF BULK AT MOST 1048576: true; the input reads as it did. -/
def onceKnownUptoRow : OpenClaim := { program := "ytmnolaklpihmnaa", sum := "8de44e894aa6d1468d3bb65ade49c44cb979268006c6cf19800a0be8c1320774", func := "copybook/copybooklaw17.OnceKnown", spec := "onceKnown", unfollowed := true, recurses := true, plainKeys := false, apart := false, narrowed := true }
def OnceKnownUptoSaid : Prop := onceKnownUptoRow.holds Try.pinned (OpenSpec.upto onceKnownSpec)

/-- 'copybooklaw17.OncePlays', WHERE WHAT IT READS IS OF BULK AT MOST 1048576: true; the input reads as it did. -/
def oncePlaysUptoRow : OpenClaim := { program := "ytmnolaklpihmnaa", sum := "8de44e894aa6d1468d3bb65ade49c44cb979268006c6cf19800a0be8c1320774", func := "copybook/copybooklaw17.OncePlays", spec := "oncePlays", unfollowed := true, recurses := true, plainKeys := false, apart := false, narrowed := true }
def OncePlaysUptoSaid : Prop := oncePlaysUptoRow.holds Try.pinned (OpenSpec.upto oncePlaysSpec)

end Rows
end Go.Proofs.Ytmnolaklpihmnaa
