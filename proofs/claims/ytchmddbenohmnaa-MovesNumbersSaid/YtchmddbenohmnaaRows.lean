/-
  No cell of these rows narrows 'for every input' (looked for: loops, veiled, ifaces, maps, wideKeys, modest, calm, conditions, laid).
  DERIVED. THE GIVEN ROWS OF THIS SEAT. 5 by the template 'for every input the law returns true; each argument reads behind the call as it read before'; 0 by the template 'total and deterministic' (their statements: YtchmddbenohmnaaTotals.lean).
  GIVEN WITH THE SEED: the statements are not yours to turn. If you find one false, say at which input.
  Laid BY PROGRAM, IN A SANDBOX (cutbox-rows.mjs): the forced cells as the released guide's own fill.sh prints them over the translation f64dffb293f85941… (all of the seat's roots in one cut). By AI agents, Wed Nov 11 2026. No macro, syntax, notation, axiom, sorry.
-/
import Derived.Test.YtchmddbenohmnaaChecked
import GoSem.Claim
import GoSem.ClaimJoined
import GoSem.ClaimMapViews
import Derived.JoinedTies
import Derived.KernelRfl
namespace Go.Proofs.Ytchmddbenohmnaa
/- THE CELL 'sum', in the pinned program and in every row, IS THE sha256 OF THE DUMP (.gsa) THAT YtchmddbenohmnaaProg.lean LOADS. Nothing in Lean hashes anything: it is a label: what it is worth is what the hold of that sum in a sandbox is worth. -/
noncomputable def Try.pinned : Pinned := { name := "ytchmddbenohmnaa", sum := "f64dffb293f85941945ded798062e4e1c64c729e428a52f90933ff4f36767f5f", checked := Try.checked }
namespace Rows
def none {H : Type} : Left H := { results := [], args := [] }

/-- 'smithylaw22.MovesRows': WHATEVER THE INPUT: true; the input reads as it did. -/
def movesRowsSpec : ChangeSpec := { name := "movesRows", fn := fun _ => fun
  | [d1, d2] => { results := [.lit (.bool true)], args := [d1, d2] }
  | _ => none }
def movesRowsRow : OpenClaim := { program := "ytchmddbenohmnaa", sum := "f64dffb293f85941945ded798062e4e1c64c729e428a52f90933ff4f36767f5f", func := "smithy/smithylaw22.MovesRows", spec := "movesRows", unfollowed := true, recurses := true, apart := false }
def MovesRowsSaid : Prop := movesRowsRow.holds Try.pinned (OpenSpec.ofChange movesRowsSpec)

/-- ITS FALSE NEIGHBOUR: 'it returns false'. Refute it at one input. -/
def movesRowsWrong : ChangeSpec := { name := "movesRows", fn := fun _ => fun
  | [d1, d2] => { results := [.lit (.bool false)], args := [d1, d2] }
  | _ => none }
def MovesRowsWrongFalsely : Prop := movesRowsRow.holds Try.pinned (OpenSpec.ofChange movesRowsWrong)

/-- 'smithylaw22.MovesDid': WHATEVER THE INPUT: true; the input reads as it did. -/
def movesDidSpec : ChangeSpec := { name := "movesDid", fn := fun _ => fun
  | [d1, d2] => { results := [.lit (.bool true)], args := [d1, d2] }
  | _ => none }
def movesDidRow : OpenClaim := { program := "ytchmddbenohmnaa", sum := "f64dffb293f85941945ded798062e4e1c64c729e428a52f90933ff4f36767f5f", func := "smithy/smithylaw22.MovesDid", spec := "movesDid", unfollowed := true, recurses := true, apart := false }
def MovesDidSaid : Prop := movesDidRow.holds Try.pinned (OpenSpec.ofChange movesDidSpec)

/-- ITS FALSE NEIGHBOUR: 'it returns false'. Refute it at one input. -/
def movesDidWrong : ChangeSpec := { name := "movesDid", fn := fun _ => fun
  | [d1, d2] => { results := [.lit (.bool false)], args := [d1, d2] }
  | _ => none }
def MovesDidWrongFalsely : Prop := movesDidRow.holds Try.pinned (OpenSpec.ofChange movesDidWrong)

/-- 'smithylaw22.MovesNumbers': WHATEVER THE INPUT: true; the input reads as it did. -/
def movesNumbersSpec : ChangeSpec := { name := "movesNumbers", fn := fun _ => fun
  | [] => { results := [.lit (.bool true)], args := [] }
  | _ => none }
def movesNumbersRow : OpenClaim := { program := "ytchmddbenohmnaa", sum := "f64dffb293f85941945ded798062e4e1c64c729e428a52f90933ff4f36767f5f", func := "smithy/smithylaw22.MovesNumbers", spec := "movesNumbers", unfollowed := true, recurses := true, apart := false }
def MovesNumbersSaid : Prop := movesNumbersRow.holds Try.pinned (OpenSpec.ofChange movesNumbersSpec)

/-- ITS FALSE NEIGHBOUR: 'it returns false'. Refute it at one input. -/
def movesNumbersWrong : ChangeSpec := { name := "movesNumbers", fn := fun _ => fun
  | [] => { results := [.lit (.bool false)], args := [] }
  | _ => none }
def MovesNumbersWrongFalsely : Prop := movesNumbersRow.holds Try.pinned (OpenSpec.ofChange movesNumbersWrong)

/-- 'smithylaw22.MovesDo': WHATEVER THE INPUT: true; the input reads as it did. -/
def movesDoSpec : ChangeSpec := { name := "movesDo", fn := fun _ => fun
  | [d] => { results := [.lit (.bool true)], args := [d] }
  | _ => none }
def movesDoRow : OpenClaim := { program := "ytchmddbenohmnaa", sum := "f64dffb293f85941945ded798062e4e1c64c729e428a52f90933ff4f36767f5f", func := "smithy/smithylaw22.MovesDo", spec := "movesDo", unfollowed := true, recurses := true, apart := false }
def MovesDoSaid : Prop := movesDoRow.holds Try.pinned (OpenSpec.ofChange movesDoSpec)

/-- ITS FALSE NEIGHBOUR: 'it returns false'. Refute it at one input. -/
def movesDoWrong : ChangeSpec := { name := "movesDo", fn := fun _ => fun
  | [d] => { results := [.lit (.bool false)], args := [d] }
  | _ => none }
def MovesDoWrongFalsely : Prop := movesDoRow.holds Try.pinned (OpenSpec.ofChange movesDoWrong)

/-- 'smithylaw22.MovesApart': WHATEVER THE INPUT: true; the input reads as it did. -/
def movesApartSpec : ChangeSpec := { name := "movesApart", fn := fun _ => fun
  | [d1, d2] => { results := [.lit (.bool true)], args := [d1, d2] }
  | _ => none }
def movesApartRow : OpenClaim := { program := "ytchmddbenohmnaa", sum := "f64dffb293f85941945ded798062e4e1c64c729e428a52f90933ff4f36767f5f", func := "smithy/smithylaw22.MovesApart", spec := "movesApart", unfollowed := true, recurses := true, apart := false }
def MovesApartSaid : Prop := movesApartRow.holds Try.pinned (OpenSpec.ofChange movesApartSpec)

/-- ITS FALSE NEIGHBOUR: 'it returns false'. Refute it at one input. -/
def movesApartWrong : ChangeSpec := { name := "movesApart", fn := fun _ => fun
  | [d1, d2] => { results := [.lit (.bool false)], args := [d1, d2] }
  | _ => none }
def MovesApartWrongFalsely : Prop := movesApartRow.holds Try.pinned (OpenSpec.ofChange movesApartWrong)

/- THE SECOND FORM. 'bulk': how many values and letters a reading holds, each counted each time it is reached (what is shared counts as often as it is met; a slice's spare places count too). A statement '..UptoSaid' is the law's where the arguments, and the package variables that the reading takes, are together of bulk at most 1048576: NARROWER than '..Said'. Prove '..Said' where nothing that the law and all that it calls make is longer than what came in: it says more and counts as full. Else prove '..UptoSaid'. A law counts once. -/
mutual
def uptoBulk {H : Type} : DataW H → Nat
  | .lit (.string bytes) => bytes.length + 1
  | .lit _ => 1
  | .nil => 1
  | .ptr d => uptoBulk d + 1
  | .slice elems spare => uptoBulkAll elems + uptoBulkAll spare + 1
  | .agg parts => uptoBulkAll parts + 1
  | .iface _ d => uptoBulk d + 1
  | .map entries => uptoBulkEntries entries + 1
  | .held _ => 1
def uptoBulkAll {H : Type} : List (DataW H) → Nat
  | [] => 0
  | d :: r => uptoBulk d + uptoBulkAll r
def uptoBulkEntries {H : Type} : List (Lit × DataW H) → Nat
  | [] => 0
  | x :: r => uptoBulkEntry x + uptoBulkEntries r
def uptoBulkEntry {H : Type} : Lit × DataW H → Nat
  | (.string bytes, d) => bytes.length + uptoBulk d + 1
  | (_, d) => uptoBulk d + 1
 end
def uptoSmall : (H : Type) → List (DataW H) → Bool := fun _ ds => decide (uptoBulkAll ds ≤ 1048576)
def OpenSpec.upto (s : _root_.Go.ChangeSpec) : _root_.Go.OpenSpec := { _root_.Go.OpenSpec.ofChange s with cond := some uptoSmall }

/-- 'smithylaw22.MovesRows', WHERE WHAT IT READS IS OF BULK AT MOST 1048576: true; the input reads as it did. -/
def movesRowsUptoRow : OpenClaim := { program := "ytchmddbenohmnaa", sum := "f64dffb293f85941945ded798062e4e1c64c729e428a52f90933ff4f36767f5f", func := "smithy/smithylaw22.MovesRows", spec := "movesRows", unfollowed := true, recurses := true, apart := false, narrowed := true }
def MovesRowsUptoSaid : Prop := movesRowsUptoRow.holds Try.pinned (OpenSpec.upto movesRowsSpec)

/-- 'smithylaw22.MovesDid', WHERE WHAT IT READS IS OF BULK AT MOST 1048576: true; the input reads as it did. -/
def movesDidUptoRow : OpenClaim := { program := "ytchmddbenohmnaa", sum := "f64dffb293f85941945ded798062e4e1c64c729e428a52f90933ff4f36767f5f", func := "smithy/smithylaw22.MovesDid", spec := "movesDid", unfollowed := true, recurses := true, apart := false, narrowed := true }
def MovesDidUptoSaid : Prop := movesDidUptoRow.holds Try.pinned (OpenSpec.upto movesDidSpec)

/-- 'smithylaw22.MovesNumbers', WHERE WHAT IT READS IS OF BULK AT MOST 1048576: true; the input reads as it did. -/
def movesNumbersUptoRow : OpenClaim := { program := "ytchmddbenohmnaa", sum := "f64dffb293f85941945ded798062e4e1c64c729e428a52f90933ff4f36767f5f", func := "smithy/smithylaw22.MovesNumbers", spec := "movesNumbers", unfollowed := true, recurses := true, apart := false, narrowed := true }
def MovesNumbersUptoSaid : Prop := movesNumbersUptoRow.holds Try.pinned (OpenSpec.upto movesNumbersSpec)

/-- 'smithylaw22.MovesDo', WHERE WHAT IT READS IS OF BULK AT MOST 1048576: true; the input reads as it did. -/
def movesDoUptoRow : OpenClaim := { program := "ytchmddbenohmnaa", sum := "f64dffb293f85941945ded798062e4e1c64c729e428a52f90933ff4f36767f5f", func := "smithy/smithylaw22.MovesDo", spec := "movesDo", unfollowed := true, recurses := true, apart := false, narrowed := true }
def MovesDoUptoSaid : Prop := movesDoUptoRow.holds Try.pinned (OpenSpec.upto movesDoSpec)

/-- 'smithylaw22.MovesApart', WHERE WHAT IT READS IS OF BULK AT MOST 1048576: true; the input reads as it did. -/
def movesApartUptoRow : OpenClaim := { program := "ytchmddbenohmnaa", sum := "f64dffb293f85941945ded798062e4e1c64c729e428a52f90933ff4f36767f5f", func := "smithy/smithylaw22.MovesApart", spec := "movesApart", unfollowed := true, recurses := true, apart := false, narrowed := true }
def MovesApartUptoSaid : Prop := movesApartUptoRow.holds Try.pinned (OpenSpec.upto movesApartSpec)

end Rows
end Go.Proofs.Ytchmddbenohmnaa
