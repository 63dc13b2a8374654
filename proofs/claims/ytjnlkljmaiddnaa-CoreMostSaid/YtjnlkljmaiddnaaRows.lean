/-
  No cell of these rows narrows 'for every input' (looked for: loops, veiled, ifaces, maps, wideKeys, modest, calm, conditions, laid).
  DERIVED. THE GIVEN ROWS OF THIS SEAT. 11 by the template 'for every input the law returns true; each argument reads behind the call as it read before'; 0 by the template 'total and deterministic' (their statements: YtjnlkljmaiddnaaTotals.lean).
  GIVEN WITH THE SEED: the statements are not yours to turn. If you find one false, say at which input.
  Laid BY PROGRAM, IN A SANDBOX (cutbox-rows.mjs): the forced cells as the released guide's own fill.sh prints them over the translation 8eab4710870778cd… (all of the seat's roots in one cut). By AI agents, Wed Nov 11 2026. No macro, syntax, notation, axiom, sorry.
-/
import Derived.Test.YtjnlkljmaiddnaaChecked
import GoSem.Claim
import GoSem.ClaimJoined
import GoSem.ClaimMapViews
import Derived.JoinedTies
import Derived.KernelRfl
namespace Go.Proofs.Ytjnlkljmaiddnaa
/- THE CELL 'sum', in the pinned program and in every row, IS THE sha256 OF THE DUMP (.gsa) THAT YtjnlkljmaiddnaaProg.lean LOADS. Nothing in Lean hashes anything: it is a label: what it is worth is what the hold of that sum in a sandbox is worth. -/
noncomputable def Try.pinned : Pinned := { name := "ytjnlkljmaiddnaa", sum := "8eab4710870778cd31d7faa6a17c2392cd56c3f370cfe1c3a298165c893d7218", checked := Try.checked }
namespace Rows
def none {H : Type} : Left H := { results := [], args := [] }

/-- 'copybooklaw20.VotesNth': WHATEVER THE INPUT: true; the input reads as it did. -/
def votesNthSpec : ChangeSpec := { name := "votesNth", fn := fun _ => fun
  | [d1, d2, d3] => { results := [.lit (.bool true)], args := [d1, d2, d3] }
  | _ => none }
def votesNthRow : OpenClaim := { program := "ytjnlkljmaiddnaa", sum := "8eab4710870778cd31d7faa6a17c2392cd56c3f370cfe1c3a298165c893d7218", func := "copybook/copybooklaw20.VotesNth", spec := "votesNth", unfollowed := true, recurses := true, plainKeys := false, apart := false }
def VotesNthSaid : Prop := votesNthRow.holds Try.pinned (OpenSpec.ofChange votesNthSpec)

/-- ITS FALSE NEIGHBOUR: 'it returns false'. Refute it at one input. -/
def votesNthWrong : ChangeSpec := { name := "votesNth", fn := fun _ => fun
  | [d1, d2, d3] => { results := [.lit (.bool false)], args := [d1, d2, d3] }
  | _ => none }
def VotesNthWrongFalsely : Prop := votesNthRow.holds Try.pinned (OpenSpec.ofChange votesNthWrong)

/-- 'copybooklaw20.VotesPlace': WHATEVER THE INPUT: true; the input reads as it did. -/
def votesPlaceSpec : ChangeSpec := { name := "votesPlace", fn := fun _ => fun
  | [d1, d2] => { results := [.lit (.bool true)], args := [d1, d2] }
  | _ => none }
def votesPlaceRow : OpenClaim := { program := "ytjnlkljmaiddnaa", sum := "8eab4710870778cd31d7faa6a17c2392cd56c3f370cfe1c3a298165c893d7218", func := "copybook/copybooklaw20.VotesPlace", spec := "votesPlace", unfollowed := true, recurses := true, plainKeys := false, apart := false }
def VotesPlaceSaid : Prop := votesPlaceRow.holds Try.pinned (OpenSpec.ofChange votesPlaceSpec)

/-- ITS FALSE NEIGHBOUR: 'it returns false'. Refute it at one input. -/
def votesPlaceWrong : ChangeSpec := { name := "votesPlace", fn := fun _ => fun
  | [d1, d2] => { results := [.lit (.bool false)], args := [d1, d2] }
  | _ => none }
def VotesPlaceWrongFalsely : Prop := votesPlaceRow.holds Try.pinned (OpenSpec.ofChange votesPlaceWrong)

/-- 'copybooklaw20.VotesCommon': WHATEVER THE INPUT: true; the input reads as it did. -/
def votesCommonSpec : ChangeSpec := { name := "votesCommon", fn := fun _ => fun
  | [d1, d2, d3] => { results := [.lit (.bool true)], args := [d1, d2, d3] }
  | _ => none }
def votesCommonRow : OpenClaim := { program := "ytjnlkljmaiddnaa", sum := "8eab4710870778cd31d7faa6a17c2392cd56c3f370cfe1c3a298165c893d7218", func := "copybook/copybooklaw20.VotesCommon", spec := "votesCommon", unfollowed := true, recurses := true, plainKeys := false, apart := false }
def VotesCommonSaid : Prop := votesCommonRow.holds Try.pinned (OpenSpec.ofChange votesCommonSpec)

/-- ITS FALSE NEIGHBOUR: 'it returns false'. Refute it at one input. -/
def votesCommonWrong : ChangeSpec := { name := "votesCommon", fn := fun _ => fun
  | [d1, d2, d3] => { results := [.lit (.bool false)], args := [d1, d2, d3] }
  | _ => none }
def VotesCommonWrongFalsely : Prop := votesCommonRow.holds Try.pinned (OpenSpec.ofChange votesCommonWrong)

/-- 'copybooklaw20.VotesOrder': WHATEVER THE INPUT: true; the input reads as it did. -/
def votesOrderSpec : ChangeSpec := { name := "votesOrder", fn := fun _ => fun
  | [d1, d2] => { results := [.lit (.bool true)], args := [d1, d2] }
  | _ => none }
def votesOrderRow : OpenClaim := { program := "ytjnlkljmaiddnaa", sum := "8eab4710870778cd31d7faa6a17c2392cd56c3f370cfe1c3a298165c893d7218", func := "copybook/copybooklaw20.VotesOrder", spec := "votesOrder", unfollowed := true, recurses := true, plainKeys := false, apart := false }
def VotesOrderSaid : Prop := votesOrderRow.holds Try.pinned (OpenSpec.ofChange votesOrderSpec)

/-- ITS FALSE NEIGHBOUR: 'it returns false'. Refute it at one input. -/
def votesOrderWrong : ChangeSpec := { name := "votesOrder", fn := fun _ => fun
  | [d1, d2] => { results := [.lit (.bool false)], args := [d1, d2] }
  | _ => none }
def VotesOrderWrongFalsely : Prop := votesOrderRow.holds Try.pinned (OpenSpec.ofChange votesOrderWrong)

/-- 'copybooklaw20.VotesPlays': WHATEVER THE INPUT: true; the input reads as it did. -/
def votesPlaysSpec : ChangeSpec := { name := "votesPlays", fn := fun _ => fun
  | [d1, d2, d3] => { results := [.lit (.bool true)], args := [d1, d2, d3] }
  | _ => none }
def votesPlaysRow : OpenClaim := { program := "ytjnlkljmaiddnaa", sum := "8eab4710870778cd31d7faa6a17c2392cd56c3f370cfe1c3a298165c893d7218", func := "copybook/copybooklaw20.VotesPlays", spec := "votesPlays", inPlace := ["maps.clone"], unfollowed := true, recurses := true, plainKeys := false, apart := false }
def VotesPlaysSaid : Prop := votesPlaysRow.holds Try.pinned (OpenSpec.ofChange votesPlaysSpec)

/-- ITS FALSE NEIGHBOUR: 'it returns false'. Refute it at one input. -/
def votesPlaysWrong : ChangeSpec := { name := "votesPlays", fn := fun _ => fun
  | [d1, d2, d3] => { results := [.lit (.bool false)], args := [d1, d2, d3] }
  | _ => none }
def VotesPlaysWrongFalsely : Prop := votesPlaysRow.holds Try.pinned (OpenSpec.ofChange votesPlaysWrong)

/-- 'copybooklaw20.VotesKnown': WHATEVER THE INPUT: true; the input reads as it did. -/
def votesKnownSpec : ChangeSpec := { name := "votesKnown", fn := fun _ => fun
  | [] => { results := [.lit (.bool true)], args := [] }
  | _ => none }
def votesKnownRow : OpenClaim := { program := "ytjnlkljmaiddnaa", sum := "8eab4710870778cd31d7faa6a17c2392cd56c3f370cfe1c3a298165c893d7218", func := "copybook/copybooklaw20.VotesKnown", spec := "votesKnown", inPlace := ["maps.clone"], unfollowed := true, recurses := true, plainKeys := false, apart := false }
def VotesKnownSaid : Prop := votesKnownRow.holds Try.pinned (OpenSpec.ofChange votesKnownSpec)

/-- ITS FALSE NEIGHBOUR: 'it returns false'. Refute it at one input. -/
def votesKnownWrong : ChangeSpec := { name := "votesKnown", fn := fun _ => fun
  | [] => { results := [.lit (.bool false)], args := [] }
  | _ => none }
def VotesKnownWrongFalsely : Prop := votesKnownRow.holds Try.pinned (OpenSpec.ofChange votesKnownWrong)

/-- 'copybooklaw21.CoreMost': WHATEVER THE INPUT: true; the input reads as it did. -/
def coreMostSpec : ChangeSpec := { name := "coreMost", fn := fun _ => fun
  | [d1, d2, d3] => { results := [.lit (.bool true)], args := [d1, d2, d3] }
  | _ => none }
def coreMostRow : OpenClaim := { program := "ytjnlkljmaiddnaa", sum := "8eab4710870778cd31d7faa6a17c2392cd56c3f370cfe1c3a298165c893d7218", func := "copybook/copybooklaw21.CoreMost", spec := "coreMost", unfollowed := true, recurses := true, plainKeys := false, apart := false }
def CoreMostSaid : Prop := coreMostRow.holds Try.pinned (OpenSpec.ofChange coreMostSpec)

/-- ITS FALSE NEIGHBOUR: 'it returns false'. Refute it at one input. -/
def coreMostWrong : ChangeSpec := { name := "coreMost", fn := fun _ => fun
  | [d1, d2, d3] => { results := [.lit (.bool false)], args := [d1, d2, d3] }
  | _ => none }
def CoreMostWrongFalsely : Prop := coreMostRow.holds Try.pinned (OpenSpec.ofChange coreMostWrong)

/-- 'copybooklaw21.CoreComes': WHATEVER THE INPUT: true; the input reads as it did. -/
def coreComesSpec : ChangeSpec := { name := "coreComes", fn := fun _ => fun
  | [d1, d2, d3] => { results := [.lit (.bool true)], args := [d1, d2, d3] }
  | _ => none }
def coreComesRow : OpenClaim := { program := "ytjnlkljmaiddnaa", sum := "8eab4710870778cd31d7faa6a17c2392cd56c3f370cfe1c3a298165c893d7218", func := "copybook/copybooklaw21.CoreComes", spec := "coreComes", unfollowed := true, recurses := true, plainKeys := false, apart := false }
def CoreComesSaid : Prop := coreComesRow.holds Try.pinned (OpenSpec.ofChange coreComesSpec)

/-- ITS FALSE NEIGHBOUR: 'it returns false'. Refute it at one input. -/
def coreComesWrong : ChangeSpec := { name := "coreComes", fn := fun _ => fun
  | [d1, d2, d3] => { results := [.lit (.bool false)], args := [d1, d2, d3] }
  | _ => none }
def CoreComesWrongFalsely : Prop := coreComesRow.holds Try.pinned (OpenSpec.ofChange coreComesWrong)

/-- 'copybooklaw21.CoreCuts': WHATEVER THE INPUT: true; the input reads as it did. -/
def coreCutsSpec : ChangeSpec := { name := "coreCuts", fn := fun _ => fun
  | [d1, d2, d3] => { results := [.lit (.bool true)], args := [d1, d2, d3] }
  | _ => none }
def coreCutsRow : OpenClaim := { program := "ytjnlkljmaiddnaa", sum := "8eab4710870778cd31d7faa6a17c2392cd56c3f370cfe1c3a298165c893d7218", func := "copybook/copybooklaw21.CoreCuts", spec := "coreCuts", unfollowed := true, recurses := true, plainKeys := false, apart := false }
def CoreCutsSaid : Prop := coreCutsRow.holds Try.pinned (OpenSpec.ofChange coreCutsSpec)

/-- ITS FALSE NEIGHBOUR: 'it returns false'. Refute it at one input. -/
def coreCutsWrong : ChangeSpec := { name := "coreCuts", fn := fun _ => fun
  | [d1, d2, d3] => { results := [.lit (.bool false)], args := [d1, d2, d3] }
  | _ => none }
def CoreCutsWrongFalsely : Prop := coreCutsRow.holds Try.pinned (OpenSpec.ofChange coreCutsWrong)

/-- 'copybooklaw21.CoreAgrees': WHATEVER THE INPUT: true; the input reads as it did. -/
def coreAgreesSpec : ChangeSpec := { name := "coreAgrees", fn := fun _ => fun
  | [d1, d2, d3] => { results := [.lit (.bool true)], args := [d1, d2, d3] }
  | _ => none }
def coreAgreesRow : OpenClaim := { program := "ytjnlkljmaiddnaa", sum := "8eab4710870778cd31d7faa6a17c2392cd56c3f370cfe1c3a298165c893d7218", func := "copybook/copybooklaw21.CoreAgrees", spec := "coreAgrees", unfollowed := true, recurses := true, plainKeys := false, apart := false }
def CoreAgreesSaid : Prop := coreAgreesRow.holds Try.pinned (OpenSpec.ofChange coreAgreesSpec)

/-- ITS FALSE NEIGHBOUR: 'it returns false'. Refute it at one input. -/
def coreAgreesWrong : ChangeSpec := { name := "coreAgrees", fn := fun _ => fun
  | [d1, d2, d3] => { results := [.lit (.bool false)], args := [d1, d2, d3] }
  | _ => none }
def CoreAgreesWrongFalsely : Prop := coreAgreesRow.holds Try.pinned (OpenSpec.ofChange coreAgreesWrong)

/-- 'copybooklaw21.CoreKnown': WHATEVER THE INPUT: true; the input reads as it did. -/
def coreKnownSpec : ChangeSpec := { name := "coreKnown", fn := fun _ => fun
  | [] => { results := [.lit (.bool true)], args := [] }
  | _ => none }
def coreKnownRow : OpenClaim := { program := "ytjnlkljmaiddnaa", sum := "8eab4710870778cd31d7faa6a17c2392cd56c3f370cfe1c3a298165c893d7218", func := "copybook/copybooklaw21.CoreKnown", spec := "coreKnown", unfollowed := true, recurses := true, plainKeys := false, apart := false }
def CoreKnownSaid : Prop := coreKnownRow.holds Try.pinned (OpenSpec.ofChange coreKnownSpec)

/-- ITS FALSE NEIGHBOUR: 'it returns false'. Refute it at one input. -/
def coreKnownWrong : ChangeSpec := { name := "coreKnown", fn := fun _ => fun
  | [] => { results := [.lit (.bool false)], args := [] }
  | _ => none }
def CoreKnownWrongFalsely : Prop := coreKnownRow.holds Try.pinned (OpenSpec.ofChange coreKnownWrong)

/- THE SECOND FORM. 'bulk': how many values and letters a reading holds, each counted each time it is reached (what is shared counts as often as it is met; a slice's spare places count too). A statement '..UptoSaid' is the law's where the arguments, and the package variables that the reading takes, are together of bulk at most 1048576: NARROWER than '..Said'. Prove '..Said' where nothing that the law and all that it calls make is longer than what came in: it says more and counts as full. Else prove '..UptoSaid'. A law counts once. -/
mutual
def uptoBulk {H : Type} : DataW H → Nat
  | .lit (.string bytes) => bytes.length + 1
  | .lit _ => 1
  | .nil => 1
  | .ptr d => uptoBulk d + 1
  | .slice elems spare => uptoBulkAll elems + uptoBulkAll spare + 1
  | .agg parts => uptoBulkAll parts + 1
  | .iface _ d => uptoBulk d + 1
  | .map entries => uptoBulkEntries entries + 1
  | .held _ => 1
def uptoBulkAll {H : Type} : List (DataW H) → Nat
  | [] => 0
  | d :: r => uptoBulk d + uptoBulkAll r
def uptoBulkEntries {H : Type} : List (Lit × DataW H) → Nat
  | [] => 0
  | x :: r => uptoBulkEntry x + uptoBulkEntries r
def uptoBulkEntry {H : Type} : Lit × DataW H → Nat
  | (.string bytes, d) => bytes.length + uptoBulk d + 1
  | (_, d) => uptoBulk d + 1
 end
def uptoSmall : (H : Type) → List (DataW H) → Bool := fun _ ds => decide (uptoBulkAll ds ≤ 1048576)
def OpenSpec.upto (s : _root_.Go.ChangeSpec) : _root_.Go.OpenSpec := { _root_.Go.OpenSpec.ofChange s with cond := some uptoSmall }

/-- 'copybooklaw20.VotesNth', WHERE WHAT IT READS IS OF BULK AT MOST 1048576: true; the input reads as it did. -/
def votesNthUptoRow : OpenClaim := { program := "ytjnlkljmaiddnaa", sum := "8eab4710870778cd31d7faa6a17c2392cd56c3f370cfe1c3a298165c893d7218", func := "copybook/copybooklaw20.VotesNth", spec := "votesNth", unfollowed := true, recurses := true, plainKeys := false, apart := false, narrowed := true }
def VotesNthUptoSaid : Prop := votesNthUptoRow.holds Try.pinned (OpenSpec.upto votesNthSpec)

/-- 'copybooklaw20.VotesPlace', WHERE WHAT IT READS IS OF BULK AT MOST 1048576: true; the input reads as it did. -/
def votesPlaceUptoRow : OpenClaim := { program := "ytjnlkljmaiddnaa", sum := "8eab4710870778cd31d7faa6a17c2392cd56c3f370cfe1c3a298165c893d7218", func := "copybook/copybooklaw20.VotesPlace", spec := "votesPlace", unfollowed := true, recurses := true, plainKeys := false, apart := false, narrowed := true }
def VotesPlaceUptoSaid : Prop := votesPlaceUptoRow.holds Try.pinned (OpenSpec.upto votesPlaceSpec)

/-- 'copybooklaw20.VotesCommon', WHERE WHAT IT READS IS OF BULK AT MOST 1048576: true; the input reads as it did. -/
def votesCommonUptoRow : OpenClaim := { program := "ytjnlkljmaiddnaa", sum := "8eab4710870778cd31d7faa6a17c2392cd56c3f370cfe1c3a298165c893d7218", func := "copybook/copybooklaw20.VotesCommon", spec := "votesCommon", unfollowed := true, recurses := true, plainKeys := false, apart := false, narrowed := true }
def VotesCommonUptoSaid : Prop := votesCommonUptoRow.holds Try.pinned (OpenSpec.upto votesCommonSpec)

/-- 'copybooklaw20.VotesOrder', WHERE WHAT IT READS IS OF BULK AT MOST 1048576: true; the input reads as it did. -/
def votesOrderUptoRow : OpenClaim := { program := "ytjnlkljmaiddnaa", sum := "8eab4710870778cd31d7faa6a17c2392cd56c3f370cfe1c3a298165c893d7218", func := "copybook/copybooklaw20.VotesOrder", spec := "votesOrder", unfollowed := true, recurses := true, plainKeys := false, apart := false, narrowed := true }
def VotesOrderUptoSaid : Prop := votesOrderUptoRow.holds Try.pinned (OpenSpec.upto votesOrderSpec)

/-- 'copybooklaw20.VotesPlays', WHERE WHAT IT READS IS OF BULK AT MOST 1048576: true; the input reads as it did. -/
def votesPlaysUptoRow : OpenClaim := { program := "ytjnlkljmaiddnaa", sum := "8eab4710870778cd31d7faa6a17c2392cd56c3f370cfe1c3a298165c893d7218", func := "copybook/copybooklaw20.VotesPlays", spec := "votesPlays", inPlace := ["maps.clone"], unfollowed := true, recurses := true, plainKeys := false, apart := false, narrowed := true }
def VotesPlaysUptoSaid : Prop := votesPlaysUptoRow.holds Try.pinned (OpenSpec.upto votesPlaysSpec)

/-- 'copybooklaw20.VotesKnown', WHERE WHAT IT READS IS OF BULK AT MOST 1048576: true; the input reads as it did. -/
def votesKnownUptoRow : OpenClaim := { program := "ytjnlkljmaiddnaa", sum := "8eab4710870778cd31d7faa6a17c2392cd56c3f370cfe1c3a298165c893d7218", func := "copybook/copybooklaw20.VotesKnown", spec := "votesKnown", inPlace := ["maps.clone"], unfollowed := true, recurses := true, plainKeys := false, apart := false, narrowed := true }
def VotesKnownUptoSaid : Prop := votesKnownUptoRow.holds Try.pinned (OpenSpec.upto votesKnownSpec)

/-- 'copybooklaw21.CoreMost', WHERE WHAT IT READS IS OF BULK AT MOST 1048576: true; the input reads as it did. -/
def coreMostUptoRow : OpenClaim := { program := "ytjnlkljmaiddnaa", sum := "8eab4710870778cd31d7faa6a17c2392cd56c3f370cfe1c3a298165c893d7218", func := "copybook/copybooklaw21.CoreMost", spec := "coreMost", unfollowed := true, recurses := true, plainKeys := false, apart := false, narrowed := true }
def CoreMostUptoSaid : Prop := coreMostUptoRow.holds Try.pinned (OpenSpec.upto coreMostSpec)

/-- 'copybooklaw21.CoreComes', WHERE WHAT IT READS IS OF BULK AT MOST 1048576: true; the input reads as it did. -/
def coreComesUptoRow : OpenClaim := { program := "ytjnlkljmaiddnaa", sum := "8eab4710870778cd31d7faa6a17c2392cd56c3f370cfe1c3a298165c893d7218", func := "copybook/copybooklaw21.CoreComes", spec := "coreComes", unfollowed := true, recurses := true, plainKeys := false, apart := false, narrowed := true }
def CoreComesUptoSaid : Prop := coreComesUptoRow.holds Try.pinned (OpenSpec.upto coreComesSpec)

/-- 'copybooklaw21.CoreCuts', WHERE WHAT IT READS IS OF BULK AT MOST 1048576: true; the input reads as it did. -/
def coreCutsUptoRow : OpenClaim := { program := "ytjnlkljmaiddnaa", sum := "8eab4710870778cd31d7faa6a17c2392cd56c3f370cfe1c3a298165c893d7218", func := "copybook/copybooklaw21.CoreCuts", spec := "coreCuts", unfollowed := true, recurses := true, plainKeys := false, apart := false, narrowed := true }
def CoreCutsUptoSaid : Prop := coreCutsUptoRow.holds Try.pinned (OpenSpec.upto coreCutsSpec)

/-- 'copybooklaw21.CoreAgrees', WHERE WHAT IT READS IS OF BULK AT MOST 1048576: true; the input reads as it did. -/
def coreAgreesUptoRow : OpenClaim := { program := "ytjnlkljmaiddnaa", sum := "8eab4710870778cd31d7faa6a17c2392cd56c3f370cfe1c3a298165c893d7218", func := "copybook/copybooklaw21.CoreAgrees", spec := "coreAgrees", unfollowed := true, recurses := true, plainKeys := false, apart := false, narrowed := true }
def CoreAgreesUptoSaid : Prop := coreAgreesUptoRow.holds Try.pinned (OpenSpec.upto coreAgreesSpec)

/-- 'copybooklaw21.CoreKnown', WHERE WHAT IT READS IS OF BULK AT MOST 1048576: true; the input reads as it did. -/
def coreKnownUptoRow : OpenClaim := { program := "ytjnlkljmaiddnaa", sum := "8eab4710870778cd31d7faa6a17c2392cd56c3f370cfe1c3a298165c893d7218", func := "copybook/copybooklaw21.CoreKnown", spec := "coreKnown", unfollowed := true, recurses := true, plainKeys := false, apart := false, narrowed := true }
def CoreKnownUptoSaid : Prop := coreKnownUptoRow.holds Try.pinned (OpenSpec.upto coreKnownSpec)

end Rows
end Go.Proofs.Ytjnlkljmaiddnaa
