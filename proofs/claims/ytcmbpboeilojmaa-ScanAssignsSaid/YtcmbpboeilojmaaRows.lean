/-
  No cell of these rows narrows 'for every input' (looked for: loops, veiled, ifaces, maps, wideKeys, modest, calm, conditions, laid).
  DERIVED. THE GIVEN ROWS OF THIS SEAT. 4 by the template 'for every input the law returns true; each argument reads behind the call as it read before'; 0 by the template 'total and deterministic' (their statements: YtcmbpboeilojmaaTotals.lean).
  GIVEN WITH THE SEED: the statements are not yours to turn. If you find one false, say at which input.
  Laid BY PROGRAM, IN A SANDBOX (cutbox-rows.mjs): the forced cells as the released guide's own fill.sh prints them over the translation 8a8207337afe6d52… (all of the seat's roots in one cut). By AI agents, Wed Nov 11 2026. No macro, syntax, notation, axiom, sorry.
-/
import Derived.Test.YtcmbpboeilojmaaChecked
import GoSem.Claim
import GoSem.ClaimJoined
import GoSem.ClaimMapViews
import Derived.JoinedTies
import Derived.KernelRfl
namespace Go.Proofs.Ytcmbpboeilojmaa
/- THE CELL 'sum', in the pinned program and in every row, IS THE sha256 OF THE DUMP (.gsa) THAT YtcmbpboeilojmaaProg.lean LOADS. Nothing in Lean hashes anything: it is a label: what it is worth is what the hold of that sum in a sandbox is worth. -/
noncomputable def Try.pinned : Pinned := { name := "ytcmbpboeilojmaa", sum := "8a8207337afe6d524ff13546eca4b4d801e3112f6512b66b873d4ca151064a3c", checked := Try.checked }
namespace Rows
def none {H : Type} : Left H := { results := [], args := [] }

/-- 'smithylaw25.ScanAssigns': WHATEVER THE INPUT: true; the input reads as it did. -/
def scanAssignsSpec : ChangeSpec := { name := "scanAssigns", fn := fun _ => fun
  | [d1, d2] => { results := [.lit (.bool true)], args := [d1, d2] }
  | _ => none }
def scanAssignsRow : OpenClaim := { program := "ytcmbpboeilojmaa", sum := "8a8207337afe6d524ff13546eca4b4d801e3112f6512b66b873d4ca151064a3c", func := "smithy/smithylaw25.ScanAssigns", spec := "scanAssigns", inPlace := ["slices.overlaps[int]"], unfollowed := true, recurses := true, apart := false }
def ScanAssignsSaid : Prop := scanAssignsRow.holds Try.pinned (OpenSpec.ofChange scanAssignsSpec)

/-- ITS FALSE NEIGHBOUR: 'it returns false'. Refute it at one input. -/
def scanAssignsWrong : ChangeSpec := { name := "scanAssigns", fn := fun _ => fun
  | [d1, d2] => { results := [.lit (.bool false)], args := [d1, d2] }
  | _ => none }
def ScanAssignsWrongFalsely : Prop := scanAssignsRow.holds Try.pinned (OpenSpec.ofChange scanAssignsWrong)

/-- 'smithylaw25.ScanHolds': WHATEVER THE INPUT: true; the input reads as it did. -/
def scanHoldsSpec : ChangeSpec := { name := "scanHolds", fn := fun _ => fun
  | [d1, d2, d3] => { results := [.lit (.bool true)], args := [d1, d2, d3] }
  | _ => none }
def scanHoldsRow : OpenClaim := { program := "ytcmbpboeilojmaa", sum := "8a8207337afe6d524ff13546eca4b4d801e3112f6512b66b873d4ca151064a3c", func := "smithy/smithylaw25.ScanHolds", spec := "scanHolds", inPlace := ["slices.overlaps[int]"], unfollowed := true, recurses := true, apart := false }
def ScanHoldsSaid : Prop := scanHoldsRow.holds Try.pinned (OpenSpec.ofChange scanHoldsSpec)

/-- ITS FALSE NEIGHBOUR: 'it returns false'. Refute it at one input. -/
def scanHoldsWrong : ChangeSpec := { name := "scanHolds", fn := fun _ => fun
  | [d1, d2, d3] => { results := [.lit (.bool false)], args := [d1, d2, d3] }
  | _ => none }
def ScanHoldsWrongFalsely : Prop := scanHoldsRow.holds Try.pinned (OpenSpec.ofChange scanHoldsWrong)

/-- 'smithylaw25.ScanApart': WHATEVER THE INPUT: true; the input reads as it did. -/
def scanApartSpec : ChangeSpec := { name := "scanApart", fn := fun _ => fun
  | [d1, d2] => { results := [.lit (.bool true)], args := [d1, d2] }
  | _ => none }
def scanApartRow : OpenClaim := { program := "ytcmbpboeilojmaa", sum := "8a8207337afe6d524ff13546eca4b4d801e3112f6512b66b873d4ca151064a3c", func := "smithy/smithylaw25.ScanApart", spec := "scanApart", inPlace := ["slices.overlaps[int]"], unfollowed := true, recurses := true, apart := false }
def ScanApartSaid : Prop := scanApartRow.holds Try.pinned (OpenSpec.ofChange scanApartSpec)

/-- ITS FALSE NEIGHBOUR: 'it returns false'. Refute it at one input. -/
def scanApartWrong : ChangeSpec := { name := "scanApart", fn := fun _ => fun
  | [d1, d2] => { results := [.lit (.bool false)], args := [d1, d2] }
  | _ => none }
def ScanApartWrongFalsely : Prop := scanApartRow.holds Try.pinned (OpenSpec.ofChange scanApartWrong)

/-- 'smithylaw25.ScanRenamed': WHATEVER THE INPUT: true; the input reads as it did. -/
def scanRenamedSpec : ChangeSpec := { name := "scanRenamed", fn := fun _ => fun
  | [d1, d2, d3] => { results := [.lit (.bool true)], args := [d1, d2, d3] }
  | _ => none }
def scanRenamedRow : OpenClaim := { program := "ytcmbpboeilojmaa", sum := "8a8207337afe6d524ff13546eca4b4d801e3112f6512b66b873d4ca151064a3c", func := "smithy/smithylaw25.ScanRenamed", spec := "scanRenamed", inPlace := ["slices.overlaps[int]"], unfollowed := true, recurses := true, apart := false }
def ScanRenamedSaid : Prop := scanRenamedRow.holds Try.pinned (OpenSpec.ofChange scanRenamedSpec)

/-- ITS FALSE NEIGHBOUR: 'it returns false'. Refute it at one input. -/
def scanRenamedWrong : ChangeSpec := { name := "scanRenamed", fn := fun _ => fun
  | [d1, d2, d3] => { results := [.lit (.bool false)], args := [d1, d2, d3] }
  | _ => none }
def ScanRenamedWrongFalsely : Prop := scanRenamedRow.holds Try.pinned (OpenSpec.ofChange scanRenamedWrong)

/- THE SECOND FORM. 'bulk': how many values and letters a reading holds, each counted each time it is reached (what is shared counts as often as it is met; a slice's spare places count too). A statement '..UptoSaid' is the law's where the arguments, and the package variables that the reading takes, are together of bulk at most 1048576: NARROWER than '..Said'. Prove '..Said' where nothing that the law and all that it calls make is longer than what came in: it says more and counts as full. Else prove '..UptoSaid'. A law counts once. -/
mutual
def uptoBulk {H : Type} : DataW H → Nat
  | .lit (.string bytes) => bytes.length + 1
  | .lit _ => 1
  | .nil => 1
  | .ptr d => uptoBulk d + 1
  | .slice elems spare => uptoBulkAll elems + uptoBulkAll spare + 1
  | .agg parts => uptoBulkAll parts + 1
  | .iface _ d => uptoBulk d + 1
  | .map entries => uptoBulkEntries entries + 1
  | .held _ => 1
def uptoBulkAll {H : Type} : List (DataW H) → Nat
  | [] => 0
  | d :: r => uptoBulk d + uptoBulkAll r
def uptoBulkEntries {H : Type} : List (Lit × DataW H) → Nat
  | [] => 0
  | x :: r => uptoBulkEntry x + uptoBulkEntries r
def uptoBulkEntry {H : Type} : Lit × DataW H → Nat
  | (.string bytes, d) => bytes.length + uptoBulk d + 1
  | (_, d) => uptoBulk d + 1
 end
def uptoSmall : (H : Type) → List (DataW H) → Bool := fun _ ds => decide (uptoBulkAll ds ≤ 1048576)
def OpenSpec.upto (s : _root_.Go.ChangeSpec) : _root_.Go.OpenSpec := { _root_.Go.OpenSpec.ofChange s with cond := some uptoSmall }

/-- 'smithylaw25.ScanAssigns', WHERE WHAT IT READS IS OF BULK AT MOST 1048576: true; the input reads as it did. -/
def scanAssignsUptoRow : OpenClaim := { program := "ytcmbpboeilojmaa", sum := "8a8207337afe6d524ff13546eca4b4d801e3112f6512b66b873d4ca151064a3c", func := "smithy/smithylaw25.ScanAssigns", spec := "scanAssigns", inPlace := ["slices.overlaps[int]"], unfollowed := true, recurses := true, apart := false, narrowed := true }
def ScanAssignsUptoSaid : Prop := scanAssignsUptoRow.holds Try.pinned (OpenSpec.upto scanAssignsSpec)

/-- 'smithylaw25.ScanHolds', WHERE WHAT IT READS IS OF BULK AT MOST 1048576: true; the input reads as it did. -/
def scanHoldsUptoRow : OpenClaim := { program := "ytcmbpboeilojmaa", sum := "8a8207337afe6d524ff13546eca4b4d801e3112f6512b66b873d4ca151064a3c", func := "smithy/smithylaw25.ScanHolds", spec := "scanHolds", inPlace := ["slices.overlaps[int]"], unfollowed := true, recurses := true, apart := false, narrowed := true }
def ScanHoldsUptoSaid : Prop := scanHoldsUptoRow.holds Try.pinned (OpenSpec.upto scanHoldsSpec)

/-- 'smithylaw25.ScanApart', WHERE WHAT IT READS IS OF BULK AT MOST 1048576: true; the input reads as it did. -/
def scanApartUptoRow : OpenClaim := { program := "ytcmbpboeilojmaa", sum := "8a8207337afe6d524ff13546eca4b4d801e3112f6512b66b873d4ca151064a3c", func := "smithy/smithylaw25.ScanApart", spec := "scanApart", inPlace := ["slices.overlaps[int]"], unfollowed := true, recurses := true, apart := false, narrowed := true }
def ScanApartUptoSaid : Prop := scanApartUptoRow.holds Try.pinned (OpenSpec.upto scanApartSpec)

/-- 'smithylaw25.ScanRenamed', WHERE WHAT IT READS IS OF BULK AT MOST 1048576: true; the input reads as it did. -/
def scanRenamedUptoRow : OpenClaim := { program := "ytcmbpboeilojmaa", sum := "8a8207337afe6d524ff13546eca4b4d801e3112f6512b66b873d4ca151064a3c", func := "smithy/smithylaw25.ScanRenamed", spec := "scanRenamed", inPlace := ["slices.overlaps[int]"], unfollowed := true, recurses := true, apart := false, narrowed := true }
def ScanRenamedUptoSaid : Prop := scanRenamedUptoRow.holds Try.pinned (OpenSpec.upto scanRenamedSpec)

end Rows
end Go.Proofs.Ytcmbpboeilojmaa
