/-
  DERIVED. GIVEN WITH THE SEED: THE CARDS: each row of YtanhnfhpajaolaaDoorRows.lean that lists a variable, with what it lists TIED to the program's text (the seventh form; the later family's looks); each row that meets fmt, with fmt's text TOLD by the authors' own Lean function (tested against real Go, not proved from fmt's source: count such statements apart). THE CARD IS WHAT COUNTS. Prove the row's statement (the work); the ties are given (YtanhnfhpajaolaaDoorTie.lean); close each card by the builder's one call (the guide's Derived/Test/ToyasCard.lean, 'card_holds'). Laid BY PROGRAM, IN A SANDBOX (cutbox-door.mjs). By AI agents, Wed Nov 11 2026. No macro, syntax, notation, axiom, sorry.
-/
import Derived.Test.YtanhnfhpajaolaaDoorRows
import GoSem.ClaimSeven
namespace Go.Proofs.YtanhnfhpajaolaaDoor
namespace Rows

/-- THE TIED CARD OF 'smithylaw12.LiveTells'. -/
def liveTellsCard : Claim7 := { stood := { row := liveTellsRow, standIns := [], harness := (true, "1b788d6419daebb23bcee9105d633fcd78e9da821760a67c87057aa171b43382"), looks := false }, kinds := [], alts := [], laidByText := true, laidKinds := [.data], laidTests := true, laidLooks := .later }
def LiveTellsCardSaid : Prop := Claim7.holds Tryd.pinned (.plain (OpenSpec.ofChange liveTellsSpec)) liveTellsCard

/-- THE TIED CARD OF 'smithylaw12.LiveNumbers'. -/
def liveNumbersCard : Claim7 := { stood := { row := liveNumbersRow, standIns := [], harness := (true, "1b788d6419daebb23bcee9105d633fcd78e9da821760a67c87057aa171b43382"), looks := false }, kinds := [], alts := [], laidByText := true, laidKinds := [.data], laidTests := true, laidLooks := .later }
def LiveNumbersCardSaid : Prop := Claim7.holds Tryd.pinned (.plain (OpenSpec.ofChange liveNumbersSpec)) liveNumbersCard

/-- THE TIED CARD OF 'smithylaw12.LiveEdges'. -/
def liveEdgesCard : Claim7 := { stood := { row := liveEdgesRow, standIns := [], harness := (true, "1b788d6419daebb23bcee9105d633fcd78e9da821760a67c87057aa171b43382"), looks := false }, kinds := [], alts := [], laidByText := true, laidKinds := [.data], laidTests := true, laidLooks := .later }
def LiveEdgesCardSaid : Prop := Claim7.holds Tryd.pinned (.plain (OpenSpec.ofChange liveEdgesSpec)) liveEdgesCard

/-- THE TIED CARD OF 'smithylaw08.RunNumbers'. -/
def runNumbersCard : Claim7 := { stood := { row := runNumbersRow, standIns := [], harness := (true, "1b788d6419daebb23bcee9105d633fcd78e9da821760a67c87057aa171b43382"), looks := false }, kinds := [], alts := [], laidByText := true, laidKinds := [.data], laidTests := true, laidLooks := .later }
def RunNumbersCardSaid : Prop := Claim7.holds Tryd.pinned (.plain (OpenSpec.ofChange runNumbersSpec)) runNumbersCard

/-- THE TIED CARD OF 'smithylaw08.RunMore'. -/
def runMoreCard : Claim7 := { stood := { row := runMoreRow, standIns := [], harness := (true, "1b788d6419daebb23bcee9105d633fcd78e9da821760a67c87057aa171b43382"), looks := false }, kinds := [], alts := [], laidByText := true, laidKinds := [.data], laidTests := true, laidLooks := .later }
def RunMoreCardSaid : Prop := Claim7.holds Tryd.pinned (.plain (OpenSpec.ofChange runMoreSpec)) runMoreCard

/-- THE TIED CARD OF 'smithylaw12.LiveRuns'. -/
def liveRunsCard : Claim7 := { stood := { row := liveRunsRow, standIns := [], harness := (true, "1b788d6419daebb23bcee9105d633fcd78e9da821760a67c87057aa171b43382"), looks := false }, kinds := [], alts := [], laidByText := true, laidKinds := [.data], laidTests := true, laidLooks := .later }
def LiveRunsCardSaid : Prop := Claim7.holds Tryd.pinned (.plain (OpenSpec.ofChange liveRunsSpec)) liveRunsCard

/-- THE TIED CARD OF 'smithylaw24.SpansNumbers'. -/
def spansNumbersCard : Claim7 := { stood := { row := spansNumbersRow, standIns := [], harness := (true, "1b788d6419daebb23bcee9105d633fcd78e9da821760a67c87057aa171b43382"), looks := false }, kinds := [], alts := [], laidByText := true, laidKinds := [.data], laidTests := true, laidLooks := .later }
def SpansNumbersCardSaid : Prop := Claim7.holds Tryd.pinned (.plain (OpenSpec.ofChange spansNumbersSpec)) spansNumbersCard

/-- THE TIED CARD OF 'smithylaw24.SpansOnce'. -/
def spansOnceCard : Claim7 := { stood := { row := spansOnceRow, standIns := [], harness := (true, "1b788d6419daebb23bcee9105d633fcd78e9da821760a67c87057aa171b43382"), looks := false }, kinds := [], alts := [], laidByText := true, laidKinds := [.data], laidTests := true, laidLooks := .later }
def SpansOnceCardSaid : Prop := Claim7.holds Tryd.pinned (.plain (OpenSpec.ofChange spansOnceSpec)) spansOnceCard

/-- THE TIED CARD OF 'smithylaw14.SccpMeets'. -/
def sccpMeetsCard : Claim7 := { stood := { row := sccpMeetsRow, standIns := [], harness := (true, "1b788d6419daebb23bcee9105d633fcd78e9da821760a67c87057aa171b43382"), looks := false }, kinds := [], alts := [], laidByText := true, laidKinds := [.data, .data, .data], laidTests := true, laidLooks := .later }
def SccpMeetsCardSaid : Prop := Claim7.holds Tryd.pinned (.plain (OpenSpec.ofChange sccpMeetsSpec)) sccpMeetsCard

/-- THE TIED CARD OF 'smithylaw14.SccpLattice'. -/
def sccpLatticeCard : Claim7 := { stood := { row := sccpLatticeRow, standIns := [], harness := (true, "1b788d6419daebb23bcee9105d633fcd78e9da821760a67c87057aa171b43382"), looks := false }, kinds := [], alts := [], laidByText := true, laidKinds := [.data, .data, .data], laidTests := true, laidLooks := .later }
def SccpLatticeCardSaid : Prop := Claim7.holds Tryd.pinned (.plain (OpenSpec.ofChange sccpLatticeSpec)) sccpLatticeCard

/-- THE SECOND FORM's CARD OF 'smithylaw12.LiveTells'. -/
def liveTellsUptoCard : Claim7 := { stood := { row := liveTellsUptoRow, standIns := [], harness := (true, "1b788d6419daebb23bcee9105d633fcd78e9da821760a67c87057aa171b43382"), looks := false }, kinds := [], alts := [], laidByText := true, laidKinds := [.data], laidTests := true, laidLooks := .later }
def LiveTellsUptoCardSaid : Prop := Claim7.holds Tryd.pinned (.plain (OpenSpec.upto liveTellsSpec)) liveTellsUptoCard

/-- THE SECOND FORM's CARD OF 'smithylaw12.LiveNumbers'. -/
def liveNumbersUptoCard : Claim7 := { stood := { row := liveNumbersUptoRow, standIns := [], harness := (true, "1b788d6419daebb23bcee9105d633fcd78e9da821760a67c87057aa171b43382"), looks := false }, kinds := [], alts := [], laidByText := true, laidKinds := [.data], laidTests := true, laidLooks := .later }
def LiveNumbersUptoCardSaid : Prop := Claim7.holds Tryd.pinned (.plain (OpenSpec.upto liveNumbersSpec)) liveNumbersUptoCard

/-- THE SECOND FORM's CARD OF 'smithylaw12.LiveEdges'. -/
def liveEdgesUptoCard : Claim7 := { stood := { row := liveEdgesUptoRow, standIns := [], harness := (true, "1b788d6419daebb23bcee9105d633fcd78e9da821760a67c87057aa171b43382"), looks := false }, kinds := [], alts := [], laidByText := true, laidKinds := [.data], laidTests := true, laidLooks := .later }
def LiveEdgesUptoCardSaid : Prop := Claim7.holds Tryd.pinned (.plain (OpenSpec.upto liveEdgesSpec)) liveEdgesUptoCard

/-- THE SECOND FORM's CARD OF 'smithylaw08.RunNumbers'. -/
def runNumbersUptoCard : Claim7 := { stood := { row := runNumbersUptoRow, standIns := [], harness := (true, "1b788d6419daebb23bcee9105d633fcd78e9da821760a67c87057aa171b43382"), looks := false }, kinds := [], alts := [], laidByText := true, laidKinds := [.data], laidTests := true, laidLooks := .later }
def RunNumbersUptoCardSaid : Prop := Claim7.holds Tryd.pinned (.plain (OpenSpec.upto runNumbersSpec)) runNumbersUptoCard

/-- THE SECOND FORM's CARD OF 'smithylaw08.RunMore'. -/
def runMoreUptoCard : Claim7 := { stood := { row := runMoreUptoRow, standIns := [], harness := (true, "1b788d6419daebb23bcee9105d633fcd78e9da821760a67c87057aa171b43382"), looks := false }, kinds := [], alts := [], laidByText := true, laidKinds := [.data], laidTests := true, laidLooks := .later }
def RunMoreUptoCardSaid : Prop := Claim7.holds Tryd.pinned (.plain (OpenSpec.upto runMoreSpec)) runMoreUptoCard

/-- THE SECOND FORM's CARD OF 'smithylaw12.LiveRuns'. -/
def liveRunsUptoCard : Claim7 := { stood := { row := liveRunsUptoRow, standIns := [], harness := (true, "1b788d6419daebb23bcee9105d633fcd78e9da821760a67c87057aa171b43382"), looks := false }, kinds := [], alts := [], laidByText := true, laidKinds := [.data], laidTests := true, laidLooks := .later }
def LiveRunsUptoCardSaid : Prop := Claim7.holds Tryd.pinned (.plain (OpenSpec.upto liveRunsSpec)) liveRunsUptoCard

/-- THE SECOND FORM's CARD OF 'smithylaw24.SpansNumbers'. -/
def spansNumbersUptoCard : Claim7 := { stood := { row := spansNumbersUptoRow, standIns := [], harness := (true, "1b788d6419daebb23bcee9105d633fcd78e9da821760a67c87057aa171b43382"), looks := false }, kinds := [], alts := [], laidByText := true, laidKinds := [.data], laidTests := true, laidLooks := .later }
def SpansNumbersUptoCardSaid : Prop := Claim7.holds Tryd.pinned (.plain (OpenSpec.upto spansNumbersSpec)) spansNumbersUptoCard

/-- THE SECOND FORM's CARD OF 'smithylaw24.SpansOnce'. -/
def spansOnceUptoCard : Claim7 := { stood := { row := spansOnceUptoRow, standIns := [], harness := (true, "1b788d6419daebb23bcee9105d633fcd78e9da821760a67c87057aa171b43382"), looks := false }, kinds := [], alts := [], laidByText := true, laidKinds := [.data], laidTests := true, laidLooks := .later }
def SpansOnceUptoCardSaid : Prop := Claim7.holds Tryd.pinned (.plain (OpenSpec.upto spansOnceSpec)) spansOnceUptoCard

/-- THE SECOND FORM's CARD OF 'smithylaw14.SccpMeets'. -/
def sccpMeetsUptoCard : Claim7 := { stood := { row := sccpMeetsUptoRow, standIns := [], harness := (true, "1b788d6419daebb23bcee9105d633fcd78e9da821760a67c87057aa171b43382"), looks := false }, kinds := [], alts := [], laidByText := true, laidKinds := [.data, .data, .data], laidTests := true, laidLooks := .later }
def SccpMeetsUptoCardSaid : Prop := Claim7.holds Tryd.pinned (.plain (OpenSpec.upto sccpMeetsSpec)) sccpMeetsUptoCard

/-- THE SECOND FORM's CARD OF 'smithylaw14.SccpLattice'. -/
def sccpLatticeUptoCard : Claim7 := { stood := { row := sccpLatticeUptoRow, standIns := [], harness := (true, "1b788d6419daebb23bcee9105d633fcd78e9da821760a67c87057aa171b43382"), looks := false }, kinds := [], alts := [], laidByText := true, laidKinds := [.data, .data, .data], laidTests := true, laidLooks := .later }
def SccpLatticeUptoCardSaid : Prop := Claim7.holds Tryd.pinned (.plain (OpenSpec.upto sccpLatticeSpec)) sccpLatticeUptoCard
end Rows
end Go.Proofs.YtanhnfhpajaolaaDoor
