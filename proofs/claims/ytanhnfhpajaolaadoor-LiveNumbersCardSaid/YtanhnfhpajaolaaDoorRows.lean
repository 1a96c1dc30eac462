/-
  NARROWER THAN 'FOR EVERY INPUT', by the rows' own cells (each row's printed sentence says how): LiveTells: laid · LiveNumbers: laid · LiveEdges: laid · RunNumbers: laid · RunMore: laid · LiveRuns: laid · SpansNumbers: laid · SpansOnce: laid · SccpMeets: laid · SccpLattice: laid.
  DERIVED. THE GIVEN ROWS OF THIS SEAT. 10 by the template 'for every input the law returns true; each argument reads behind the call as it read before'; 0 by the template 'total and deterministic' (their statements: YtanhnfhpajaolaaDoorTotals.lean).
  GIVEN WITH THE SEED: the statements are not yours to turn. If you find one false, say at which input.
  Laid BY PROGRAM, IN A SANDBOX (cutbox-rows.mjs): the forced cells as the released guide's own fill.sh prints them over the translation 58843e7e61c94f40… (all of the seat's roots in one cut). By AI agents, Wed Nov 11 2026. No macro, syntax, notation, axiom, sorry.
-/
import Derived.Test.YtanhnfhpajaolaaDoorChecked
import GoSem.Claim
import GoSem.ClaimJoined
import GoSem.ClaimMapViews
import Derived.JoinedTies
import Derived.KernelRfl
namespace Go.Proofs.YtanhnfhpajaolaaDoor
/- THE CELL 'sum', in the pinned program and in every row, IS THE sha256 OF THE DUMP (.gsa) THAT YtanhnfhpajaolaaDoorProg.lean LOADS. Nothing in Lean hashes anything: it is a label: what it is worth is what the hold of that sum in a sandbox is worth. -/
noncomputable def Tryd.pinned : Pinned := { name := "ytanhnfhpajaolaadoor", sum := "58843e7e61c94f4067b1270eb5c4af0f0e139ecf2de25c19ac28a8541cc1f6c9", checked := Tryd.checked }
namespace Rows
def none {H : Type} : Left H := { results := [], args := [] }

/- WHAT THE LISTED PACKAGE-LEVEL VARIABLES READ AS WHEN THE CALL BEGINS. Each datum BY PROGRAM (the guide's laid-datum.mjs) off the statement by which the dump's own 'gosem.cut.vars' lays the variable. In a bare row this is a premise. The card (YtanhnfhpajaolaaDoorCards.lean) ties it to the program's text. -/
def laid_smithy_graph_forms {H : Type} : DataW H := .agg [.agg [.lit (.bool false), .lit (.bool false), .lit (.bool false), .lit (.bool false), .lit (.int .i64 0)], .agg [.lit (.bool true), .lit (.bool false), .lit (.bool false), .lit (.bool false), .lit (.int .i64 (-1))], .agg [.lit (.bool true), .lit (.bool false), .lit (.bool true), .lit (.bool false), .lit (.int .i64 0)], .agg [.lit (.bool true), .lit (.bool false), .lit (.bool false), .lit (.bool false), .lit (.int .i64 1)], .agg [.lit (.bool true), .lit (.bool true), .lit (.bool false), .lit (.bool false), .lit (.int .i64 (-1))], .agg [.lit (.bool true), .lit (.bool false), .lit (.bool false), .lit (.bool false), .lit (.int .i64 1)], .agg [.lit (.bool true), .lit (.bool false), .lit (.bool false), .lit (.bool true), .lit (.int .i64 1)], .agg [.lit (.bool false), .lit (.bool false), .lit (.bool false), .lit (.bool true), .lit (.int .i64 2)], .agg [.lit (.bool false), .lit (.bool false), .lit (.bool false), .lit (.bool true), .lit (.int .i64 0)], .agg [.lit (.bool true), .lit (.bool false), .lit (.bool false), .lit (.bool true), .lit (.int .i64 (-1))], .agg [.lit (.bool false), .lit (.bool false), .lit (.bool false), .lit (.bool false), .lit (.int .i64 1)]]
def laid_smithy_sccp_unseen {H : Type} : DataW H := .agg [.lit (.int .u8 0), .lit (.int .u64 0)]
def laid_smithy_sccp_varying {H : Type} : DataW H := .agg [.lit (.int .u8 2), .lit (.int .u64 0)]

/-- 'smithylaw12.LiveTells': WHATEVER THE INPUT: true; the input reads as it did. -/
def liveTellsSpec : ChangeSpec := { name := "liveTells", fn := fun _ => fun
  | [d] => { results := [.lit (.bool true)], args := [d] }
  | _ => none }
def liveTellsRow : OpenClaim := { program := "ytanhnfhpajaolaadoor", sum := "58843e7e61c94f4067b1270eb5c4af0f0e139ecf2de25c19ac28a8541cc1f6c9", func := "smithy/smithylaw12.LiveTells", spec := "liveTells", inPlace := ["math.Float64frombits"], unfollowed := true, recurses := true, named := ["smithy/graph.forms"], apart := false, laid := [("smithy/graph.forms", laid_smithy_graph_forms)] }
def LiveTellsSaid : Prop := liveTellsRow.holds Tryd.pinned (OpenSpec.ofChange liveTellsSpec)

/-- ITS FALSE NEIGHBOUR: 'it returns false'. Refute it at one input. -/
def liveTellsWrong : ChangeSpec := { name := "liveTells", fn := fun _ => fun
  | [d] => { results := [.lit (.bool false)], args := [d] }
  | _ => none }
def LiveTellsWrongFalsely : Prop := liveTellsRow.holds Tryd.pinned (OpenSpec.ofChange liveTellsWrong)

/-- 'smithylaw12.LiveNumbers': WHATEVER THE INPUT: true; the input reads as it did. -/
def liveNumbersSpec : ChangeSpec := { name := "liveNumbers", fn := fun _ => fun
  | [] => { results := [.lit (.bool true)], args := [] }
  | _ => none }
def liveNumbersRow : OpenClaim := { program := "ytanhnfhpajaolaadoor", sum := "58843e7e61c94f4067b1270eb5c4af0f0e139ecf2de25c19ac28a8541cc1f6c9", func := "smithy/smithylaw12.LiveNumbers", spec := "liveNumbers", inPlace := ["math.Float64frombits"], unfollowed := true, recurses := true, named := ["smithy/graph.forms"], apart := false, laid := [("smithy/graph.forms", laid_smithy_graph_forms)] }
def LiveNumbersSaid : Prop := liveNumbersRow.holds Tryd.pinned (OpenSpec.ofChange liveNumbersSpec)

/-- ITS FALSE NEIGHBOUR: 'it returns false'. Refute it at one input. -/
def liveNumbersWrong : ChangeSpec := { name := "liveNumbers", fn := fun _ => fun
  | [] => { results := [.lit (.bool false)], args := [] }
  | _ => none }
def LiveNumbersWrongFalsely : Prop := liveNumbersRow.holds Tryd.pinned (OpenSpec.ofChange liveNumbersWrong)

/-- 'smithylaw12.LiveEdges': WHATEVER THE INPUT: true; the input reads as it did. -/
def liveEdgesSpec : ChangeSpec := { name := "liveEdges", fn := fun _ => fun
  | [d] => { results := [.lit (.bool true)], args := [d] }
  | _ => none }
def liveEdgesRow : OpenClaim := { program := "ytanhnfhpajaolaadoor", sum := "58843e7e61c94f4067b1270eb5c4af0f0e139ecf2de25c19ac28a8541cc1f6c9", func := "smithy/smithylaw12.LiveEdges", spec := "liveEdges", inPlace := ["math.Float64frombits"], unfollowed := true, recurses := true, named := ["smithy/graph.forms"], apart := false, laid := [("smithy/graph.forms", laid_smithy_graph_forms)] }
def LiveEdgesSaid : Prop := liveEdgesRow.holds Tryd.pinned (OpenSpec.ofChange liveEdgesSpec)

/-- ITS FALSE NEIGHBOUR: 'it returns false'. Refute it at one input. -/
def liveEdgesWrong : ChangeSpec := { name := "liveEdges", fn := fun _ => fun
  | [d] => { results := [.lit (.bool false)], args := [d] }
  | _ => none }
def LiveEdgesWrongFalsely : Prop := liveEdgesRow.holds Tryd.pinned (OpenSpec.ofChange liveEdgesWrong)

/-- 'smithylaw08.RunNumbers': WHATEVER THE INPUT: true; the input reads as it did. -/
def runNumbersSpec : ChangeSpec := { name := "runNumbers", fn := fun _ => fun
  | [] => { results := [.lit (.bool true)], args := [] }
  | _ => none }
def runNumbersRow : OpenClaim := { program := "ytanhnfhpajaolaadoor", sum := "58843e7e61c94f4067b1270eb5c4af0f0e139ecf2de25c19ac28a8541cc1f6c9", func := "smithy/smithylaw08.RunNumbers", spec := "runNumbers", inPlace := ["math.Float64frombits", "math.Float64bits", "math.archTrunc"], unfollowed := true, recurses := true, named := ["smithy/graph.forms"], apart := false, laid := [("smithy/graph.forms", laid_smithy_graph_forms)] }
def RunNumbersSaid : Prop := runNumbersRow.holds Tryd.pinned (OpenSpec.ofChange runNumbersSpec)

/-- ITS FALSE NEIGHBOUR: 'it returns false'. Refute it at one input. -/
def runNumbersWrong : ChangeSpec := { name := "runNumbers", fn := fun _ => fun
  | [] => { results := [.lit (.bool false)], args := [] }
  | _ => none }
def RunNumbersWrongFalsely : Prop := runNumbersRow.holds Tryd.pinned (OpenSpec.ofChange runNumbersWrong)

/-- 'smithylaw08.RunMore': WHATEVER THE INPUT: true; the input reads as it did. -/
def runMoreSpec : ChangeSpec := { name := "runMore", fn := fun _ => fun
  | [d1, d2, d3, d4, d5, d6] => { results := [.lit (.bool true)], args := [d1, d2, d3, d4, d5, d6] }
  | _ => none }
def runMoreRow : OpenClaim := { program := "ytanhnfhpajaolaadoor", sum := "58843e7e61c94f4067b1270eb5c4af0f0e139ecf2de25c19ac28a8541cc1f6c9", func := "smithy/smithylaw08.RunMore", spec := "runMore", inPlace := ["math.Float64frombits", "math.Float64bits", "math.archTrunc"], unfollowed := true, recurses := true, named := ["smithy/graph.forms"], apart := false, laid := [("smithy/graph.forms", laid_smithy_graph_forms)] }
def RunMoreSaid : Prop := runMoreRow.holds Tryd.pinned (OpenSpec.ofChange runMoreSpec)

/-- ITS FALSE NEIGHBOUR: 'it returns false'. Refute it at one input. -/
def runMoreWrong : ChangeSpec := { name := "runMore", fn := fun _ => fun
  | [d1, d2, d3, d4, d5, d6] => { results := [.lit (.bool false)], args := [d1, d2, d3, d4, d5, d6] }
  | _ => none }
def RunMoreWrongFalsely : Prop := runMoreRow.holds Tryd.pinned (OpenSpec.ofChange runMoreWrong)

/-- 'smithylaw12.LiveRuns': WHATEVER THE INPUT: true; the input reads as it did. -/
def liveRunsSpec : ChangeSpec := { name := "liveRuns", fn := fun _ => fun
  | [d1, d2, d3, d4] => { results := [.lit (.bool true)], args := [d1, d2, d3, d4] }
  | _ => none }
def liveRunsRow : OpenClaim := { program := "ytanhnfhpajaolaadoor", sum := "58843e7e61c94f4067b1270eb5c4af0f0e139ecf2de25c19ac28a8541cc1f6c9", func := "smithy/smithylaw12.LiveRuns", spec := "liveRuns", inPlace := ["math.Float64frombits", "math.Float64bits", "math.archTrunc"], unfollowed := true, recurses := true, named := ["smithy/graph.forms"], apart := false, laid := [("smithy/graph.forms", laid_smithy_graph_forms)] }
def LiveRunsSaid : Prop := liveRunsRow.holds Tryd.pinned (OpenSpec.ofChange liveRunsSpec)

/-- ITS FALSE NEIGHBOUR: 'it returns false'. Refute it at one input. -/
def liveRunsWrong : ChangeSpec := { name := "liveRuns", fn := fun _ => fun
  | [d1, d2, d3, d4] => { results := [.lit (.bool false)], args := [d1, d2, d3, d4] }
  | _ => none }
def LiveRunsWrongFalsely : Prop := liveRunsRow.holds Tryd.pinned (OpenSpec.ofChange liveRunsWrong)

/-- 'smithylaw24.SpansNumbers': WHATEVER THE INPUT: true; the input reads as it did. -/
def spansNumbersSpec : ChangeSpec := { name := "spansNumbers", fn := fun _ => fun
  | [] => { results := [.lit (.bool true)], args := [] }
  | _ => none }
def spansNumbersRow : OpenClaim := { program := "ytanhnfhpajaolaadoor", sum := "58843e7e61c94f4067b1270eb5c4af0f0e139ecf2de25c19ac28a8541cc1f6c9", func := "smithy/smithylaw24.SpansNumbers", spec := "spansNumbers", inPlace := ["math.Float64frombits"], unfollowed := true, recurses := true, named := ["smithy/graph.forms"], apart := false, laid := [("smithy/graph.forms", laid_smithy_graph_forms)] }
def SpansNumbersSaid : Prop := spansNumbersRow.holds Tryd.pinned (OpenSpec.ofChange spansNumbersSpec)

/-- ITS FALSE NEIGHBOUR: 'it returns false'. Refute it at one input. -/
def spansNumbersWrong : ChangeSpec := { name := "spansNumbers", fn := fun _ => fun
  | [] => { results := [.lit (.bool false)], args := [] }
  | _ => none }
def SpansNumbersWrongFalsely : Prop := spansNumbersRow.holds Tryd.pinned (OpenSpec.ofChange spansNumbersWrong)

/-- 'smithylaw24.SpansOnce': WHATEVER THE INPUT: true; the input reads as it did. -/
def spansOnceSpec : ChangeSpec := { name := "spansOnce", fn := fun _ => fun
  | [d] => { results := [.lit (.bool true)], args := [d] }
  | _ => none }
def spansOnceRow : OpenClaim := { program := "ytanhnfhpajaolaadoor", sum := "58843e7e61c94f4067b1270eb5c4af0f0e139ecf2de25c19ac28a8541cc1f6c9", func := "smithy/smithylaw24.SpansOnce", spec := "spansOnce", inPlace := ["math.Float64frombits"], unfollowed := true, recurses := true, named := ["smithy/graph.forms"], apart := false, laid := [("smithy/graph.forms", laid_smithy_graph_forms)] }
def SpansOnceSaid : Prop := spansOnceRow.holds Tryd.pinned (OpenSpec.ofChange spansOnceSpec)

/-- ITS FALSE NEIGHBOUR: 'it returns false'. Refute it at one input. -/
def spansOnceWrong : ChangeSpec := { name := "spansOnce", fn := fun _ => fun
  | [d] => { results := [.lit (.bool false)], args := [d] }
  | _ => none }
def SpansOnceWrongFalsely : Prop := spansOnceRow.holds Tryd.pinned (OpenSpec.ofChange spansOnceWrong)

/-- 'smithylaw14.SccpMeets': WHATEVER THE INPUT: true; the input reads as it did. -/
def sccpMeetsSpec : ChangeSpec := { name := "sccpMeets", fn := fun _ => fun
  | [d1, d2] => { results := [.lit (.bool true)], args := [d1, d2] }
  | _ => none }
def sccpMeetsRow : OpenClaim := { program := "ytanhnfhpajaolaadoor", sum := "58843e7e61c94f4067b1270eb5c4af0f0e139ecf2de25c19ac28a8541cc1f6c9", func := "smithy/smithylaw14.SccpMeets", spec := "sccpMeets", inPlace := ["math.Float64frombits", "math.archTrunc", "math.Float64bits"], unfollowed := true, recurses := true, named := ["smithy/sccp.varying", "smithy/graph.forms", "smithy/sccp.unseen"], apart := false, laid := [("smithy/graph.forms", laid_smithy_graph_forms), ("smithy/sccp.unseen", laid_smithy_sccp_unseen), ("smithy/sccp.varying", laid_smithy_sccp_varying)] }
def SccpMeetsSaid : Prop := sccpMeetsRow.holds Tryd.pinned (OpenSpec.ofChange sccpMeetsSpec)

/-- ITS FALSE NEIGHBOUR: 'it returns false'. Refute it at one input. -/
def sccpMeetsWrong : ChangeSpec := { name := "sccpMeets", fn := fun _ => fun
  | [d1, d2] => { results := [.lit (.bool false)], args := [d1, d2] }
  | _ => none }
def SccpMeetsWrongFalsely : Prop := sccpMeetsRow.holds Tryd.pinned (OpenSpec.ofChange sccpMeetsWrong)

/-- 'smithylaw14.SccpLattice': WHATEVER THE INPUT: true; the input reads as it did. -/
def sccpLatticeSpec : ChangeSpec := { name := "sccpLattice", fn := fun _ => fun
  | [d1, d2, d3] => { results := [.lit (.bool true)], args := [d1, d2, d3] }
  | _ => none }
def sccpLatticeRow : OpenClaim := { program := "ytanhnfhpajaolaadoor", sum := "58843e7e61c94f4067b1270eb5c4af0f0e139ecf2de25c19ac28a8541cc1f6c9", func := "smithy/smithylaw14.SccpLattice", spec := "sccpLattice", inPlace := ["math.Float64frombits", "math.archTrunc", "math.Float64bits"], unfollowed := true, recurses := true, named := ["smithy/sccp.varying", "smithy/graph.forms", "smithy/sccp.unseen"], apart := false, laid := [("smithy/graph.forms", laid_smithy_graph_forms), ("smithy/sccp.unseen", laid_smithy_sccp_unseen), ("smithy/sccp.varying", laid_smithy_sccp_varying)] }
def SccpLatticeSaid : Prop := sccpLatticeRow.holds Tryd.pinned (OpenSpec.ofChange sccpLatticeSpec)

/-- ITS FALSE NEIGHBOUR: 'it returns false'. Refute it at one input. -/
def sccpLatticeWrong : ChangeSpec := { name := "sccpLattice", fn := fun _ => fun
  | [d1, d2, d3] => { results := [.lit (.bool false)], args := [d1, d2, d3] }
  | _ => none }
def SccpLatticeWrongFalsely : Prop := sccpLatticeRow.holds Tryd.pinned (OpenSpec.ofChange sccpLatticeWrong)

/- THE SECOND FORM. 'bulk': how many values and letters a reading holds, each counted each time it is reached (what is shared counts as often as it is met; a slice's spare places count too). A statement '..UptoSaid' is the law's where the arguments, and the package variables that the reading takes, are together of bulk at most 1048576: NARROWER than '..Said'. Prove '..Said' where nothing that the law and all that it calls make is longer than what came in: it says more and counts as full. Else prove '..UptoSaid'. A law counts once. -/
mutual
def uptoBulk {H : Type} : DataW H → Nat
  | .lit (.string bytes) => bytes.length + 1
  | .lit _ => 1
  | .nil => 1
  | .ptr d => uptoBulk d + 1
  | .slice elems spare => uptoBulkAll elems + uptoBulkAll spare + 1
  | .agg parts => uptoBulkAll parts + 1
  | .iface _ d => uptoBulk d + 1
  | .map entries => uptoBulkEntries entries + 1
  | .held _ => 1
def uptoBulkAll {H : Type} : List (DataW H) → Nat
  | [] => 0
  | d :: r => uptoBulk d + uptoBulkAll r
def uptoBulkEntries {H : Type} : List (Lit × DataW H) → Nat
  | [] => 0
  | x :: r => uptoBulkEntry x + uptoBulkEntries r
def uptoBulkEntry {H : Type} : Lit × DataW H → Nat
  | (.string bytes, d) => bytes.length + uptoBulk d + 1
  | (_, d) => uptoBulk d + 1
 end
def uptoSmall : (H : Type) → List (DataW H) → Bool := fun _ ds => decide (uptoBulkAll ds ≤ 1048576)
def OpenSpec.upto (s : _root_.Go.ChangeSpec) : _root_.Go.OpenSpec := { _root_.Go.OpenSpec.ofChange s with cond := some uptoSmall }

/-- 'smithylaw12.LiveTells', WHERE WHAT IT READS IS OF BULK AT MOST 1048576: true; the input reads as it did. -/
def liveTellsUptoRow : OpenClaim := { program := "ytanhnfhpajaolaadoor", sum := "58843e7e61c94f4067b1270eb5c4af0f0e139ecf2de25c19ac28a8541cc1f6c9", func := "smithy/smithylaw12.LiveTells", spec := "liveTells", inPlace := ["math.Float64frombits"], unfollowed := true, recurses := true, named := ["smithy/graph.forms"], apart := false, laid := [("smithy/graph.forms", laid_smithy_graph_forms)], narrowed := true }
def LiveTellsUptoSaid : Prop := liveTellsUptoRow.holds Tryd.pinned (OpenSpec.upto liveTellsSpec)

/-- 'smithylaw12.LiveNumbers', WHERE WHAT IT READS IS OF BULK AT MOST 1048576: true; the input reads as it did. -/
def liveNumbersUptoRow : OpenClaim := { program := "ytanhnfhpajaolaadoor", sum := "58843e7e61c94f4067b1270eb5c4af0f0e139ecf2de25c19ac28a8541cc1f6c9", func := "smithy/smithylaw12.LiveNumbers", spec := "liveNumbers", inPlace := ["math.Float64frombits"], unfollowed := true, recurses := true, named := ["smithy/graph.forms"], apart := false, laid := [("smithy/graph.forms", laid_smithy_graph_forms)], narrowed := true }
def LiveNumbersUptoSaid : Prop := liveNumbersUptoRow.holds Tryd.pinned (OpenSpec.upto liveNumbersSpec)

/-- 'smithylaw12.LiveEdges', WHERE WHAT IT READS IS OF BULK AT MOST 1048576: true; the input reads as it did. -/
def liveEdgesUptoRow : OpenClaim := { program := "ytanhnfhpajaolaadoor", sum := "58843e7e61c94f4067b1270eb5c4af0f0e139ecf2de25c19ac28a8541cc1f6c9", func := "smithy/smithylaw12.LiveEdges", spec := "liveEdges", inPlace := ["math.Float64frombits"], unfollowed := true, recurses := true, named := ["smithy/graph.forms"], apart := false, laid := [("smithy/graph.forms", laid_smithy_graph_forms)], narrowed := true }
def LiveEdgesUptoSaid : Prop := liveEdgesUptoRow.holds Tryd.pinned (OpenSpec.upto liveEdgesSpec)

/-- 'smithylaw08.RunNumbers', WHERE WHAT IT READS IS OF BULK AT MOST 1048576: true; the input reads as it did. -/
def runNumbersUptoRow : OpenClaim := { program := "ytanhnfhpajaolaadoor", sum := "58843e7e61c94f4067b1270eb5c4af0f0e139ecf2de25c19ac28a8541cc1f6c9", func := "smithy/smithylaw08.RunNumbers", spec := "runNumbers", inPlace := ["math.Float64frombits", "math.Float64bits", "math.archTrunc"], unfollowed := true, recurses := true, named := ["smithy/graph.forms"], apart := false, laid := [("smithy/graph.forms", laid_smithy_graph_forms)], narrowed := true }
def RunNumbersUptoSaid : Prop := runNumbersUptoRow.holds Tryd.pinned (OpenSpec.upto runNumbersSpec)

/-- 'smithylaw08.RunMore', WHERE WHAT IT READS IS OF BULK AT MOST 1048576: true; the input reads as it did. -/
def runMoreUptoRow : OpenClaim := { program := "ytanhnfhpajaolaadoor", sum := "58843e7e61c94f4067b1270eb5c4af0f0e139ecf2de25c19ac28a8541cc1f6c9", func := "smithy/smithylaw08.RunMore", spec := "runMore", inPlace := ["math.Float64frombits", "math.Float64bits", "math.archTrunc"], unfollowed := true, recurses := true, named := ["smithy/graph.forms"], apart := false, laid := [("smithy/graph.forms", laid_smithy_graph_forms)], narrowed := true }
def RunMoreUptoSaid : Prop := runMoreUptoRow.holds Tryd.pinned (OpenSpec.upto runMoreSpec)

/-- 'smithylaw12.LiveRuns', WHERE WHAT IT READS IS OF BULK AT MOST 1048576: true; the input reads as it did. -/
def liveRunsUptoRow : OpenClaim := { program := "ytanhnfhpajaolaadoor", sum := "58843e7e61c94f4067b1270eb5c4af0f0e139ecf2de25c19ac28a8541cc1f6c9", func := "smithy/smithylaw12.LiveRuns", spec := "liveRuns", inPlace := ["math.Float64frombits", "math.Float64bits", "math.archTrunc"], unfollowed := true, recurses := true, named := ["smithy/graph.forms"], apart := false, laid := [("smithy/graph.forms", laid_smithy_graph_forms)], narrowed := true }
def LiveRunsUptoSaid : Prop := liveRunsUptoRow.holds Tryd.pinned (OpenSpec.upto liveRunsSpec)

/-- 'smithylaw24.SpansNumbers', WHERE WHAT IT READS IS OF BULK AT MOST 1048576: true; the input reads as it did. -/
def spansNumbersUptoRow : OpenClaim := { program := "ytanhnfhpajaolaadoor", sum := "58843e7e61c94f4067b1270eb5c4af0f0e139ecf2de25c19ac28a8541cc1f6c9", func := "smithy/smithylaw24.SpansNumbers", spec := "spansNumbers", inPlace := ["math.Float64frombits"], unfollowed := true, recurses := true, named := ["smithy/graph.forms"], apart := false, laid := [("smithy/graph.forms", laid_smithy_graph_forms)], narrowed := true }
def SpansNumbersUptoSaid : Prop := spansNumbersUptoRow.holds Tryd.pinned (OpenSpec.upto spansNumbersSpec)

/-- 'smithylaw24.SpansOnce', WHERE WHAT IT READS IS OF BULK AT MOST 1048576: true; the input reads as it did. -/
def spansOnceUptoRow : OpenClaim := { program := "ytanhnfhpajaolaadoor", sum := "58843e7e61c94f4067b1270eb5c4af0f0e139ecf2de25c19ac28a8541cc1f6c9", func := "smithy/smithylaw24.SpansOnce", spec := "spansOnce", inPlace := ["math.Float64frombits"], unfollowed := true, recurses := true, named := ["smithy/graph.forms"], apart := false, laid := [("smithy/graph.forms", laid_smithy_graph_forms)], narrowed := true }
def SpansOnceUptoSaid : Prop := spansOnceUptoRow.holds Tryd.pinned (OpenSpec.upto spansOnceSpec)

/-- 'smithylaw14.SccpMeets', WHERE WHAT IT READS IS OF BULK AT MOST 1048576: true; the input reads as it did. -/
def sccpMeetsUptoRow : OpenClaim := { program := "ytanhnfhpajaolaadoor", sum := "58843e7e61c94f4067b1270eb5c4af0f0e139ecf2de25c19ac28a8541cc1f6c9", func := "smithy/smithylaw14.SccpMeets", spec := "sccpMeets", inPlace := ["math.Float64frombits", "math.archTrunc", "math.Float64bits"], unfollowed := true, recurses := true, named := ["smithy/sccp.varying", "smithy/graph.forms", "smithy/sccp.unseen"], apart := false, laid := [("smithy/graph.forms", laid_smithy_graph_forms), ("smithy/sccp.unseen", laid_smithy_sccp_unseen), ("smithy/sccp.varying", laid_smithy_sccp_varying)], narrowed := true }
def SccpMeetsUptoSaid : Prop := sccpMeetsUptoRow.holds Tryd.pinned (OpenSpec.upto sccpMeetsSpec)

/-- 'smithylaw14.SccpLattice', WHERE WHAT IT READS IS OF BULK AT MOST 1048576: true; the input reads as it did. -/
def sccpLatticeUptoRow : OpenClaim := { program := "ytanhnfhpajaolaadoor", sum := "58843e7e61c94f4067b1270eb5c4af0f0e139ecf2de25c19ac28a8541cc1f6c9", func := "smithy/smithylaw14.SccpLattice", spec := "sccpLattice", inPlace := ["math.Float64frombits", "math.archTrunc", "math.Float64bits"], unfollowed := true, recurses := true, named := ["smithy/sccp.varying", "smithy/graph.forms", "smithy/sccp.unseen"], apart := false, laid := [("smithy/graph.forms", laid_smithy_graph_forms), ("smithy/sccp.unseen", laid_smithy_sccp_unseen), ("smithy/sccp.varying", laid_smithy_sccp_varying)], narrowed := true }
def SccpLatticeUptoSaid : Prop := sccpLatticeUptoRow.holds Tryd.pinned (OpenSpec.upto sccpLatticeSpec)

end Rows
end Go.Proofs.YtanhnfhpajaolaaDoor
