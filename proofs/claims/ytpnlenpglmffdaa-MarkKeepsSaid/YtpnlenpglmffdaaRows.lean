/-
  No cell of these rows narrows 'for every input' (looked for: loops, veiled, ifaces, maps, wideKeys, modest, calm, conditions, laid).
  DERIVED. THE GIVEN ROWS OF THIS SEAT. 9 by the template 'for every input the law returns true; each argument reads behind the call as it read before'; 0 by the template 'total and deterministic' (their statements: YtpnlenpglmffdaaTotals.lean).
  GIVEN WITH THE SEED: the statements are not yours to turn. If you find one false, say at which input.
  Laid BY PROGRAM, IN A SANDBOX (cutbox-rows.mjs): the forced cells as the released guide's own fill.sh prints them over the translation 0860e0d1d20dd4f2… (all of the seat's roots in one cut). By AI agents, Wed Nov 11 2026. No macro, syntax, notation, axiom, sorry.
-/
import Derived.Test.YtpnlenpglmffdaaChecked
import GoSem.Claim
import GoSem.ClaimJoined
import GoSem.ClaimMapViews
import Derived.JoinedTies
import Derived.KernelRfl
namespace Go.Proofs.Ytpnlenpglmffdaa
/- THE CELL 'sum', in the pinned program and in every row, IS THE sha256 OF THE DUMP (.gsa) THAT YtpnlenpglmffdaaProg.lean LOADS. Nothing in Lean hashes anything: it is a label: what it is worth is what the hold of that sum in a sandbox is worth. -/
noncomputable def Try.pinned : Pinned := { name := "ytpnlenpglmffdaa", sum := "0860e0d1d20dd4f232d07f7cafd269bd5d5ba5bd63500e019cd8b172d87e074f", checked := Try.checked }
namespace Rows
def none {H : Type} : Left H := { results := [], args := [] }

/-- 'copybooklaw11.MarkParts': WHATEVER THE INPUT: true; the input reads as it did. -/
def markPartsSpec : ChangeSpec := { name := "markParts", fn := fun _ => fun
  | [d1, d2] => { results := [.lit (.bool true)], args := [d1, d2] }
  | _ => none }
def markPartsRow : OpenClaim := { program := "ytpnlenpglmffdaa", sum := "0860e0d1d20dd4f232d07f7cafd269bd5d5ba5bd63500e019cd8b172d87e074f", func := "copybook/copybooklaw11.MarkParts", spec := "markParts", unfollowed := true, recurses := true, apart := false }
def MarkPartsSaid : Prop := markPartsRow.holds Try.pinned (OpenSpec.ofChange markPartsSpec)

/-- ITS FALSE NEIGHBOUR: 'it returns false'. Refute it at one input. -/
def markPartsWrong : ChangeSpec := { name := "markParts", fn := fun _ => fun
  | [d1, d2] => { results := [.lit (.bool false)], args := [d1, d2] }
  | _ => none }
def MarkPartsWrongFalsely : Prop := markPartsRow.holds Try.pinned (OpenSpec.ofChange markPartsWrong)

/-- 'copybooklaw11.MarkKeeps': WHATEVER THE INPUT: true; the input reads as it did. -/
def markKeepsSpec : ChangeSpec := { name := "markKeeps", fn := fun _ => fun
  | [d1, d2, d3] => { results := [.lit (.bool true)], args := [d1, d2, d3] }
  | _ => none }
def markKeepsRow : OpenClaim := { program := "ytpnlenpglmffdaa", sum := "0860e0d1d20dd4f232d07f7cafd269bd5d5ba5bd63500e019cd8b172d87e074f", func := "copybook/copybooklaw11.MarkKeeps", spec := "markKeeps", inPlace := ["slices.overlaps[copybook/api.Char]"], unfollowed := true, recurses := true, apart := false }
def MarkKeepsSaid : Prop := markKeepsRow.holds Try.pinned (OpenSpec.ofChange markKeepsSpec)

/-- ITS FALSE NEIGHBOUR: 'it returns false'. Refute it at one input. -/
def markKeepsWrong : ChangeSpec := { name := "markKeeps", fn := fun _ => fun
  | [d1, d2, d3] => { results := [.lit (.bool false)], args := [d1, d2, d3] }
  | _ => none }
def MarkKeepsWrongFalsely : Prop := markKeepsRow.holds Try.pinned (OpenSpec.ofChange markKeepsWrong)

/-- 'copybooklaw11.MarkApart': WHATEVER THE INPUT: true; the input reads as it did. -/
def markApartSpec : ChangeSpec := { name := "markApart", fn := fun _ => fun
  | [d1, d2, d3] => { results := [.lit (.bool true)], args := [d1, d2, d3] }
  | _ => none }
def markApartRow : OpenClaim := { program := "ytpnlenpglmffdaa", sum := "0860e0d1d20dd4f232d07f7cafd269bd5d5ba5bd63500e019cd8b172d87e074f", func := "copybook/copybooklaw11.MarkApart", spec := "markApart", inPlace := ["maps.clone"], unfollowed := true, recurses := true, apart := false }
def MarkApartSaid : Prop := markApartRow.holds Try.pinned (OpenSpec.ofChange markApartSpec)

/-- ITS FALSE NEIGHBOUR: 'it returns false'. Refute it at one input. -/
def markApartWrong : ChangeSpec := { name := "markApart", fn := fun _ => fun
  | [d1, d2, d3] => { results := [.lit (.bool false)], args := [d1, d2, d3] }
  | _ => none }
def MarkApartWrongFalsely : Prop := markApartRow.holds Try.pinned (OpenSpec.ofChange markApartWrong)

/-- 'copybooklaw11.MarkKnown': WHATEVER THE INPUT: true; the input reads as it did. -/
def markKnownSpec : ChangeSpec := { name := "markKnown", fn := fun _ => fun
  | [] => { results := [.lit (.bool true)], args := [] }
  | _ => none }
def markKnownRow : OpenClaim := { program := "ytpnlenpglmffdaa", sum := "0860e0d1d20dd4f232d07f7cafd269bd5d5ba5bd63500e019cd8b172d87e074f", func := "copybook/copybooklaw11.MarkKnown", spec := "markKnown", inPlace := ["maps.clone"], unfollowed := true, recurses := true, apart := false }
def MarkKnownSaid : Prop := markKnownRow.holds Try.pinned (OpenSpec.ofChange markKnownSpec)

/-- ITS FALSE NEIGHBOUR: 'it returns false'. Refute it at one input. -/
def markKnownWrong : ChangeSpec := { name := "markKnown", fn := fun _ => fun
  | [] => { results := [.lit (.bool false)], args := [] }
  | _ => none }
def MarkKnownWrongFalsely : Prop := markKnownRow.holds Try.pinned (OpenSpec.ofChange markKnownWrong)

/-- 'copybooklaw12.LeaseHolds': WHATEVER THE INPUT: true; the input reads as it did. -/
def leaseHoldsSpec : ChangeSpec := { name := "leaseHolds", fn := fun _ => fun
  | [d1, d2, d3] => { results := [.lit (.bool true)], args := [d1, d2, d3] }
  | _ => none }
def leaseHoldsRow : OpenClaim := { program := "ytpnlenpglmffdaa", sum := "0860e0d1d20dd4f232d07f7cafd269bd5d5ba5bd63500e019cd8b172d87e074f", func := "copybook/copybooklaw12.LeaseHolds", spec := "leaseHolds", unfollowed := true, recurses := true, apart := false }
def LeaseHoldsSaid : Prop := leaseHoldsRow.holds Try.pinned (OpenSpec.ofChange leaseHoldsSpec)

/-- ITS FALSE NEIGHBOUR: 'it returns false'. Refute it at one input. -/
def leaseHoldsWrong : ChangeSpec := { name := "leaseHolds", fn := fun _ => fun
  | [d1, d2, d3] => { results := [.lit (.bool false)], args := [d1, d2, d3] }
  | _ => none }
def LeaseHoldsWrongFalsely : Prop := leaseHoldsRow.holds Try.pinned (OpenSpec.ofChange leaseHoldsWrong)

/-- 'copybooklaw12.LeaseBack': WHATEVER THE INPUT: true; the input reads as it did. -/
def leaseBackSpec : ChangeSpec := { name := "leaseBack", fn := fun _ => fun
  | [d1, d2, d3] => { results := [.lit (.bool true)], args := [d1, d2, d3] }
  | _ => none }
def leaseBackRow : OpenClaim := { program := "ytpnlenpglmffdaa", sum := "0860e0d1d20dd4f232d07f7cafd269bd5d5ba5bd63500e019cd8b172d87e074f", func := "copybook/copybooklaw12.LeaseBack", spec := "leaseBack", unfollowed := true, recurses := true, apart := false }
def LeaseBackSaid : Prop := leaseBackRow.holds Try.pinned (OpenSpec.ofChange leaseBackSpec)

/-- ITS FALSE NEIGHBOUR: 'it returns false'. Refute it at one input. -/
def leaseBackWrong : ChangeSpec := { name := "leaseBack", fn := fun _ => fun
  | [d1, d2, d3] => { results := [.lit (.bool false)], args := [d1, d2, d3] }
  | _ => none }
def LeaseBackWrongFalsely : Prop := leaseBackRow.holds Try.pinned (OpenSpec.ofChange leaseBackWrong)

/-- 'copybooklaw12.LeasePlays': WHATEVER THE INPUT: true; the input reads as it did. -/
def leasePlaysSpec : ChangeSpec := { name := "leasePlays", fn := fun _ => fun
  | [d1, d2] => { results := [.lit (.bool true)], args := [d1, d2] }
  | _ => none }
def leasePlaysRow : OpenClaim := { program := "ytpnlenpglmffdaa", sum := "0860e0d1d20dd4f232d07f7cafd269bd5d5ba5bd63500e019cd8b172d87e074f", func := "copybook/copybooklaw12.LeasePlays", spec := "leasePlays", inPlace := ["maps.clone"], unfollowed := true, recurses := true, apart := false }
def LeasePlaysSaid : Prop := leasePlaysRow.holds Try.pinned (OpenSpec.ofChange leasePlaysSpec)

/-- ITS FALSE NEIGHBOUR: 'it returns false'. Refute it at one input. -/
def leasePlaysWrong : ChangeSpec := { name := "leasePlays", fn := fun _ => fun
  | [d1, d2] => { results := [.lit (.bool false)], args := [d1, d2] }
  | _ => none }
def LeasePlaysWrongFalsely : Prop := leasePlaysRow.holds Try.pinned (OpenSpec.ofChange leasePlaysWrong)

/-- 'copybooklaw12.LeaseExpires': WHATEVER THE INPUT: true; the input reads as it did. -/
def leaseExpiresSpec : ChangeSpec := { name := "leaseExpires", fn := fun _ => fun
  | [d1, d2, d3] => { results := [.lit (.bool true)], args := [d1, d2, d3] }
  | _ => none }
def leaseExpiresRow : OpenClaim := { program := "ytpnlenpglmffdaa", sum := "0860e0d1d20dd4f232d07f7cafd269bd5d5ba5bd63500e019cd8b172d87e074f", func := "copybook/copybooklaw12.LeaseExpires", spec := "leaseExpires", inPlace := ["maps.clone"], unfollowed := true, recurses := true, apart := false }
def LeaseExpiresSaid : Prop := leaseExpiresRow.holds Try.pinned (OpenSpec.ofChange leaseExpiresSpec)

/-- ITS FALSE NEIGHBOUR: 'it returns false'. Refute it at one input. -/
def leaseExpiresWrong : ChangeSpec := { name := "leaseExpires", fn := fun _ => fun
  | [d1, d2, d3] => { results := [.lit (.bool false)], args := [d1, d2, d3] }
  | _ => none }
def LeaseExpiresWrongFalsely : Prop := leaseExpiresRow.holds Try.pinned (OpenSpec.ofChange leaseExpiresWrong)

/-- 'copybooklaw12.LeaseKnown': WHATEVER THE INPUT: true; the input reads as it did. -/
def leaseKnownSpec : ChangeSpec := { name := "leaseKnown", fn := fun _ => fun
  | [] => { results := [.lit (.bool true)], args := [] }
  | _ => none }
def leaseKnownRow : OpenClaim := { program := "ytpnlenpglmffdaa", sum := "0860e0d1d20dd4f232d07f7cafd269bd5d5ba5bd63500e019cd8b172d87e074f", func := "copybook/copybooklaw12.LeaseKnown", spec := "leaseKnown", inPlace := ["maps.clone"], unfollowed := true, recurses := true, apart := false }
def LeaseKnownSaid : Prop := leaseKnownRow.holds Try.pinned (OpenSpec.ofChange leaseKnownSpec)

/-- ITS FALSE NEIGHBOUR: 'it returns false'. Refute it at one input. -/
def leaseKnownWrong : ChangeSpec := { name := "leaseKnown", fn := fun _ => fun
  | [] => { results := [.lit (.bool false)], args := [] }
  | _ => none }
def LeaseKnownWrongFalsely : Prop := leaseKnownRow.holds Try.pinned (OpenSpec.ofChange leaseKnownWrong)

/- THE SECOND FORM. 'bulk': how many values and letters a reading holds, each counted each time it is reached (what is shared counts as often as it is met; a slice's spare places count too). A statement '..UptoSaid' is the law's where the arguments, and the package variables that the reading takes, are together of bulk at most 1048576: NARROWER than '..Said'. Prove '..Said' where nothing that the law and all that it calls make is longer than what came in: it says more and counts as full. Else prove '..UptoSaid'. A law counts once. -/
mutual
def uptoBulk {H : Type} : DataW H → Nat
  | .lit (.string bytes) => bytes.length + 1
  | .lit _ => 1
  | .nil => 1
  | .ptr d => uptoBulk d + 1
  | .slice elems spare => uptoBulkAll elems + uptoBulkAll spare + 1
  | .agg parts => uptoBulkAll parts + 1
  | .iface _ d => uptoBulk d + 1
  | .map entries => uptoBulkEntries entries + 1
  | .held _ => 1
def uptoBulkAll {H : Type} : List (DataW H) → Nat
  | [] => 0
  | d :: r => uptoBulk d + uptoBulkAll r
def uptoBulkEntries {H : Type} : List (Lit × DataW H) → Nat
  | [] => 0
  | x :: r => uptoBulkEntry x + uptoBulkEntries r
def uptoBulkEntry {H : Type} : Lit × DataW H → Nat
  | (.string bytes, d) => bytes.length + uptoBulk d + 1
  | (_, d) => uptoBulk d + 1
 end
def uptoSmall : (H : Type) → List (DataW H) → Bool := fun _ ds => decide (uptoBulkAll ds ≤ 1048576)
def OpenSpec.upto (s : _root_.Go.ChangeSpec) : _root_.Go.OpenSpec := { _root_.Go.OpenSpec.ofChange s with cond := some uptoSmall }

/-- 'copybooklaw11.MarkParts', WHERE WHAT IT READS IS OF BULK AT MOST 1048576: true; the input reads as it did. -/
def markPartsUptoRow : OpenClaim := { program := "ytpnlenpglmffdaa", sum := "0860e0d1d20dd4f232d07f7cafd269bd5d5ba5bd63500e019cd8b172d87e074f", func := "copybook/copybooklaw11.MarkParts", spec := "markParts", unfollowed := true, recurses := true, apart := false, narrowed := true }
def MarkPartsUptoSaid : Prop := markPartsUptoRow.holds Try.pinned (OpenSpec.upto markPartsSpec)

/-- 'copybooklaw11.MarkKeeps', WHERE WHAT IT READS IS OF BULK AT MOST 1048576: true; the input reads as it did. -/
def markKeepsUptoRow : OpenClaim := { program := "ytpnlenpglmffdaa", sum := "0860e0d1d20dd4f232d07f7cafd269bd5d5ba5bd63500e019cd8b172d87e074f", func := "copybook/copybooklaw11.MarkKeeps", spec := "markKeeps", inPlace := ["slices.overlaps[copybook/api.Char]"], unfollowed := true, recurses := true, apart := false, narrowed := true }
def MarkKeepsUptoSaid : Prop := markKeepsUptoRow.holds Try.pinned (OpenSpec.upto markKeepsSpec)

/-- 'copybooklaw11.MarkApart', WHERE WHAT IT READS IS OF BULK AT MOST 1048576: true; the input reads as it did. -/
def markApartUptoRow : OpenClaim := { program := "ytpnlenpglmffdaa", sum := "0860e0d1d20dd4f232d07f7cafd269bd5d5ba5bd63500e019cd8b172d87e074f", func := "copybook/copybooklaw11.MarkApart", spec := "markApart", inPlace := ["maps.clone"], unfollowed := true, recurses := true, apart := false, narrowed := true }
def MarkApartUptoSaid : Prop := markApartUptoRow.holds Try.pinned (OpenSpec.upto markApartSpec)

/-- 'copybooklaw11.MarkKnown', WHERE WHAT IT READS IS OF BULK AT MOST 1048576: true; the input reads as it did. -/
def markKnownUptoRow : OpenClaim := { program := "ytpnlenpglmffdaa", sum := "0860e0d1d20dd4f232d07f7cafd269bd5d5ba5bd63500e019cd8b172d87e074f", func := "copybook/copybooklaw11.MarkKnown", spec := "markKnown", inPlace := ["maps.clone"], unfollowed := true, recurses := true, apart := false, narrowed := true }
def MarkKnownUptoSaid : Prop := markKnownUptoRow.holds Try.pinned (OpenSpec.upto markKnownSpec)

/-- 'copybooklaw12.LeaseHolds', WHERE WHAT IT READS IS OF BULK AT MOST 1048576: true; the input reads as it did. -/
def leaseHoldsUptoRow : OpenClaim := { program := "ytpnlenpglmffdaa", sum := "0860e0d1d20dd4f232d07f7cafd269bd5d5ba5bd63500e019cd8b172d87e074f", func := "copybook/copybooklaw12.LeaseHolds", spec := "leaseHolds", unfollowed := true, recurses := true, apart := false, narrowed := true }
def LeaseHoldsUptoSaid : Prop := leaseHoldsUptoRow.holds Try.pinned (OpenSpec.upto leaseHoldsSpec)

/-- 'copybooklaw12.LeaseBack', WHERE WHAT IT READS IS OF BULK AT MOST 1048576: true; the input reads as it did. -/
def leaseBackUptoRow : OpenClaim := { program := "ytpnlenpglmffdaa", sum := "0860e0d1d20dd4f232d07f7cafd269bd5d5ba5bd63500e019cd8b172d87e074f", func := "copybook/copybooklaw12.LeaseBack", spec := "leaseBack", unfollowed := true, recurses := true, apart := false, narrowed := true }
def LeaseBackUptoSaid : Prop := leaseBackUptoRow.holds Try.pinned (OpenSpec.upto leaseBackSpec)

/-- 'copybooklaw12.LeasePlays', WHERE WHAT IT READS IS OF BULK AT MOST 1048576: true; the input reads as it did. -/
def leasePlaysUptoRow : OpenClaim := { program := "ytpnlenpglmffdaa", sum := "0860e0d1d20dd4f232d07f7cafd269bd5d5ba5bd63500e019cd8b172d87e074f", func := "copybook/copybooklaw12.LeasePlays", spec := "leasePlays", inPlace := ["maps.clone"], unfollowed := true, recurses := true, apart := false, narrowed := true }
def LeasePlaysUptoSaid : Prop := leasePlaysUptoRow.holds Try.pinned (OpenSpec.upto leasePlaysSpec)

/-- 'copybooklaw12.LeaseExpires', WHERE WHAT IT READS IS OF BULK AT MOST 1048576: true; the input reads as it did. -/
def leaseExpiresUptoRow : OpenClaim := { program := "ytpnlenpglmffdaa", sum := "0860e0d1d20dd4f232d07f7cafd269bd5d5ba5bd63500e019cd8b172d87e074f", func := "copybook/copybooklaw12.LeaseExpires", spec := "leaseExpires", inPlace := ["maps.clone"], unfollowed := true, recurses := true, apart := false, narrowed := true }
def LeaseExpiresUptoSaid : Prop := leaseExpiresUptoRow.holds Try.pinned (OpenSpec.upto leaseExpiresSpec)

/-- 'copybooklaw12.LeaseKnown', WHERE WHAT IT READS IS OF BULK AT MOST 1048576: true; the input reads as it did. -/
def leaseKnownUptoRow : OpenClaim := { program := "ytpnlenpglmffdaa", sum := "0860e0d1d20dd4f232d07f7cafd269bd5d5ba5bd63500e019cd8b172d87e074f", func := "copybook/copybooklaw12.LeaseKnown", spec := "leaseKnown", inPlace := ["maps.clone"], unfollowed := true, recurses := true, apart := false, narrowed := true }
def LeaseKnownUptoSaid : Prop := leaseKnownUptoRow.holds Try.pinned (OpenSpec.upto leaseKnownSpec)

end Rows
end Go.Proofs.Ytpnlenpglmffdaa
