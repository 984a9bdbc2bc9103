/-
  DERIVED. GIVEN WITH THE SEED: THE CARDS: each row of YtobhipeiogljjaaDoorRows.lean that lists a variable, with what it lists TIED to the program's text (the seventh form; the later family's looks); each row that meets fmt, with fmt's text TOLD by the authors' own Lean function (tested against real Go, not proved from fmt's source: count such statements apart). THE CARD IS WHAT COUNTS. Prove the row's statement (the work); the ties are given (YtobhipeiogljjaaDoorTie.lean); close each card by the builder's one call (the guide's Derived/Test/ToyasCard.lean, 'card_holds'). Laid BY PROGRAM, IN A SANDBOX (cutbox-door.mjs). By AI agents, Wed Nov 11 2026. No macro, syntax, notation, axiom, sorry.
-/
import Derived.Test.YtobhipeiogljjaaDoorRows
import GoSem.ClaimSeven
namespace Go.Proofs.YtobhipeiogljjaaDoor
namespace Rows

/-- THE TIED CARD OF 'reredoslaw.WireMessages'. -/
def wireMessagesCard : Claim7 := { stood := { row := wireMessagesRow, standIns := [], harness := (true, "2112c9ae3f18c3e0b62850898f9f42d09e3caa563e560960c0419cb00c8e14d3"), looks := true }, kinds := [], alts := [], laidByText := true, laidKinds := [.data], laidTests := true, laidLooks := .later }
def WireMessagesCardSaid : Prop := Claim7.holds Tryd.pinned (.plain (OpenSpec.ofChange wireMessagesSpec)) wireMessagesCard

/-- THE TIED CARD OF 'reredoslaw.WireRecords'. -/
def wireRecordsCard : Claim7 := { stood := { row := wireRecordsRow, standIns := [], harness := (true, "2112c9ae3f18c3e0b62850898f9f42d09e3caa563e560960c0419cb00c8e14d3"), looks := true }, kinds := [], alts := [], laidByText := true, laidKinds := [.data], laidTests := true, laidLooks := .later }
def WireRecordsCardSaid : Prop := Claim7.holds Tryd.pinned (.plain (OpenSpec.ofChange wireRecordsSpec)) wireRecordsCard

/-- THE TIED CARD OF 'reredoslaw.NetChecks'. -/
def netChecksCard : Claim7 := { stood := { row := netChecksRow, standIns := [], harness := (true, "2112c9ae3f18c3e0b62850898f9f42d09e3caa563e560960c0419cb00c8e14d3"), looks := true }, kinds := [], alts := [], laidByText := true, laidKinds := [.data], laidTests := true, laidLooks := .later }
def NetChecksCardSaid : Prop := Claim7.holds Tryd.pinned (.plain (OpenSpec.ofChange netChecksSpec)) netChecksCard

/-- THE TIED CARD OF 'reredoslaw.WireWrites'. -/
def wireWritesCard : Claim7 := { stood := { row := wireWritesRow, standIns := [], harness := (true, "2112c9ae3f18c3e0b62850898f9f42d09e3caa563e560960c0419cb00c8e14d3"), looks := true }, kinds := [], alts := [], laidByText := true, laidKinds := [.data], laidTests := true, laidLooks := .later }
def WireWritesCardSaid : Prop := Claim7.holds Tryd.pinned (.plain (OpenSpec.ofChange wireWritesSpec)) wireWritesCard

/-- THE TIED CARD OF 'reredoslaw.WireSays'. -/
def wireSaysCard : Claim7 := { stood := { row := wireSaysRow, standIns := [], harness := (true, "2112c9ae3f18c3e0b62850898f9f42d09e3caa563e560960c0419cb00c8e14d3"), looks := true }, kinds := [], alts := [], laidByText := true, laidKinds := [.data], laidTests := true, laidLooks := .later }
def WireSaysCardSaid : Prop := Claim7.holds Tryd.pinned (.plain (OpenSpec.ofChange wireSaysSpec)) wireSaysCard

/-- THE TIED CARD OF 'reredoslaw.NetSends'. -/
def netSendsCard : Claim7 := { stood := { row := netSendsRow, standIns := [], harness := (true, "2112c9ae3f18c3e0b62850898f9f42d09e3caa563e560960c0419cb00c8e14d3"), looks := true }, kinds := [], alts := [], laidByText := true, laidKinds := [.data], laidTests := true, laidLooks := .later }
def NetSendsCardSaid : Prop := Claim7.holds Tryd.pinned (.plain (OpenSpec.ofChange netSendsSpec)) netSendsCard

/-- THE TIED CARD OF 'reredoslaw.NetTakes'. -/
def netTakesCard : Claim7 := { stood := { row := netTakesRow, standIns := [], harness := (true, "2112c9ae3f18c3e0b62850898f9f42d09e3caa563e560960c0419cb00c8e14d3"), looks := true }, kinds := [], alts := [], laidByText := true, laidKinds := [.data], laidTests := true, laidLooks := .later }
def NetTakesCardSaid : Prop := Claim7.holds Tryd.pinned (.plain (OpenSpec.ofChange netTakesSpec)) netTakesCard

/-- THE TIED CARD OF 'reredoslaw.WireReads'. -/
def wireReadsCard : Claim7 := { stood := { row := wireReadsRow, standIns := [], harness := (true, "2112c9ae3f18c3e0b62850898f9f42d09e3caa563e560960c0419cb00c8e14d3"), looks := true }, kinds := [], alts := [], laidByText := true, laidKinds := [.data], laidTests := true, laidLooks := .later }
def WireReadsCardSaid : Prop := Claim7.holds Tryd.pinned (.plain (OpenSpec.ofChange wireReadsSpec)) wireReadsCard

/-- THE TIED CARD OF 'reredoslaw.WireHears'. -/
def wireHearsCard : Claim7 := { stood := { row := wireHearsRow, standIns := [], harness := (true, "2112c9ae3f18c3e0b62850898f9f42d09e3caa563e560960c0419cb00c8e14d3"), looks := true }, kinds := [], alts := [], laidByText := true, laidKinds := [.data], laidTests := true, laidLooks := .later }
def WireHearsCardSaid : Prop := Claim7.holds Tryd.pinned (.plain (OpenSpec.ofChange wireHearsSpec)) wireHearsCard

/-- THE TIED CARD OF 'reredoslaw.TapeAppends'. -/
def tapeAppendsCard : Claim7 := { stood := { row := tapeAppendsRow, standIns := [], harness := (true, "2112c9ae3f18c3e0b62850898f9f42d09e3caa563e560960c0419cb00c8e14d3"), looks := true }, kinds := [], alts := [], laidByText := true, laidKinds := [.data], laidTests := true, laidLooks := .later }
def TapeAppendsCardSaid : Prop := Claim7.holds Tryd.pinned (.plain (OpenSpec.ofChange tapeAppendsSpec)) tapeAppendsCard

/-- THE TIED CARD OF 'reredoslaw.TapeRecovers'. -/
def tapeRecoversCard : Claim7 := { stood := { row := tapeRecoversRow, standIns := [], harness := (true, "2112c9ae3f18c3e0b62850898f9f42d09e3caa563e560960c0419cb00c8e14d3"), looks := true }, kinds := [], alts := [], laidByText := true, laidKinds := [.data], laidTests := true, laidLooks := .later }
def TapeRecoversCardSaid : Prop := Claim7.holds Tryd.pinned (.plain (OpenSpec.ofChange tapeRecoversSpec)) tapeRecoversCard

/-- THE TIED CARD OF 'reredoslaw.LinesShows'. -/
def linesShowsCard : Claim7 := { stood := { row := linesShowsRow, standIns := [], harness := (true, "2112c9ae3f18c3e0b62850898f9f42d09e3caa563e560960c0419cb00c8e14d3"), looks := true }, kinds := [], alts := [], laidByText := true, laidKinds := [.data, .data, .data, .widerDeep, .widerDeep], laidTests := true, laidLooks := .later }
def LinesShowsCardSaid : Prop := Claim7.holds Tryd.pinned (.plain (OpenSpec.ofChange linesShowsSpec)) linesShowsCard

/-- THE TIED CARD OF 'reredoslaw.ConsoleShows'. -/
def consoleShowsCard : Claim7 := { stood := { row := consoleShowsRow, standIns := [], harness := (true, "2112c9ae3f18c3e0b62850898f9f42d09e3caa563e560960c0419cb00c8e14d3"), looks := true }, kinds := [], alts := [], laidByText := true, laidKinds := [.data, .data, .data], laidTests := true, laidLooks := .later }
def ConsoleShowsCardSaid : Prop := Claim7.holds Tryd.pinned (.plain (OpenSpec.ofChange consoleShowsSpec)) consoleShowsCard

/-- THE TIED CARD OF 'reredoslaw.RecoverRebuilds'. -/
def recoverRebuildsCard : Claim7 := { stood := { row := recoverRebuildsRow, standIns := [], harness := (true, "2112c9ae3f18c3e0b62850898f9f42d09e3caa563e560960c0419cb00c8e14d3"), looks := true }, kinds := [], alts := [], laidByText := true, laidKinds := [.data], laidTests := true, laidLooks := .later }
def RecoverRebuildsCardSaid : Prop := Claim7.holds Tryd.pinned (.plain (OpenSpec.ofChange recoverRebuildsSpec)) recoverRebuildsCard

/-- THE TIED CARD OF 'reredoslaw.PartHears'. -/
def partHearsCard : Claim7 := { stood := { row := partHearsRow, standIns := [], harness := (true, "2112c9ae3f18c3e0b62850898f9f42d09e3caa563e560960c0419cb00c8e14d3"), looks := true }, kinds := [], alts := [], laidByText := true, laidKinds := [.data], laidTests := true, laidLooks := .later }
def PartHearsCardSaid : Prop := Claim7.holds Tryd.pinned (.plain (OpenSpec.ofChange partHearsSpec)) partHearsCard

/-- THE TIED CARD OF 'reredoslaw.CoordHears'. -/
def coordHearsCard : Claim7 := { stood := { row := coordHearsRow, standIns := [], harness := (true, "2112c9ae3f18c3e0b62850898f9f42d09e3caa563e560960c0419cb00c8e14d3"), looks := true }, kinds := [], alts := [], laidByText := true, laidKinds := [.data], laidTests := true, laidLooks := .later }
def CoordHearsCardSaid : Prop := Claim7.holds Tryd.pinned (.plain (OpenSpec.ofChange coordHearsSpec)) coordHearsCard

/-- THE TIED CARD OF 'reredoslaw.ConsoleReads'. -/
def consoleReadsCard : Claim7 := { stood := { row := consoleReadsRow, standIns := [], harness := (true, "2112c9ae3f18c3e0b62850898f9f42d09e3caa563e560960c0419cb00c8e14d3"), looks := true }, kinds := [], alts := [], laidByText := true, laidKinds := [.data, .data, .data, .data, .sentinel, .sentinel, .pinned], laidTests := true, laidLooks := .later }
def ConsoleReadsCardSaid : Prop := Claim7.holds Tryd.pinned (.plain (OpenSpec.ofChange consoleReadsSpec)) consoleReadsCard

/-- THE TIED CARD OF 'reredoslaw.LinesReads'. -/
def linesReadsCard : Claim7 := { stood := { row := linesReadsRow, standIns := [], harness := (true, "2112c9ae3f18c3e0b62850898f9f42d09e3caa563e560960c0419cb00c8e14d3"), looks := true }, kinds := [], alts := [], laidByText := true, laidKinds := [.data, .data, .data, .data, .sentinel, .sentinel, .widerDeep, .widerDeep, .pinned], laidTests := true, laidLooks := .later }
def LinesReadsCardSaid : Prop := Claim7.holds Tryd.pinned (.plain (OpenSpec.ofChange linesReadsSpec)) linesReadsCard

/-- THE SECOND FORM's CARD OF 'reredoslaw.WireMessages'. -/
def wireMessagesUptoCard : Claim7 := { stood := { row := wireMessagesUptoRow, standIns := [], harness := (true, "2112c9ae3f18c3e0b62850898f9f42d09e3caa563e560960c0419cb00c8e14d3"), looks := true }, kinds := [], alts := [], laidByText := true, laidKinds := [.data], laidTests := true, laidLooks := .later }
def WireMessagesUptoCardSaid : Prop := Claim7.holds Tryd.pinned (.plain (OpenSpec.upto wireMessagesSpec)) wireMessagesUptoCard

/-- THE SECOND FORM's CARD OF 'reredoslaw.WireRecords'. -/
def wireRecordsUptoCard : Claim7 := { stood := { row := wireRecordsUptoRow, standIns := [], harness := (true, "2112c9ae3f18c3e0b62850898f9f42d09e3caa563e560960c0419cb00c8e14d3"), looks := true }, kinds := [], alts := [], laidByText := true, laidKinds := [.data], laidTests := true, laidLooks := .later }
def WireRecordsUptoCardSaid : Prop := Claim7.holds Tryd.pinned (.plain (OpenSpec.upto wireRecordsSpec)) wireRecordsUptoCard

/-- THE SECOND FORM's CARD OF 'reredoslaw.NetChecks'. -/
def netChecksUptoCard : Claim7 := { stood := { row := netChecksUptoRow, standIns := [], harness := (true, "2112c9ae3f18c3e0b62850898f9f42d09e3caa563e560960c0419cb00c8e14d3"), looks := true }, kinds := [], alts := [], laidByText := true, laidKinds := [.data], laidTests := true, laidLooks := .later }
def NetChecksUptoCardSaid : Prop := Claim7.holds Tryd.pinned (.plain (OpenSpec.upto netChecksSpec)) netChecksUptoCard

/-- THE SECOND FORM's CARD OF 'reredoslaw.WireWrites'. -/
def wireWritesUptoCard : Claim7 := { stood := { row := wireWritesUptoRow, standIns := [], harness := (true, "2112c9ae3f18c3e0b62850898f9f42d09e3caa563e560960c0419cb00c8e14d3"), looks := true }, kinds := [], alts := [], laidByText := true, laidKinds := [.data], laidTests := true, laidLooks := .later }
def WireWritesUptoCardSaid : Prop := Claim7.holds Tryd.pinned (.plain (OpenSpec.upto wireWritesSpec)) wireWritesUptoCard

/-- THE SECOND FORM's CARD OF 'reredoslaw.WireSays'. -/
def wireSaysUptoCard : Claim7 := { stood := { row := wireSaysUptoRow, standIns := [], harness := (true, "2112c9ae3f18c3e0b62850898f9f42d09e3caa563e560960c0419cb00c8e14d3"), looks := true }, kinds := [], alts := [], laidByText := true, laidKinds := [.data], laidTests := true, laidLooks := .later }
def WireSaysUptoCardSaid : Prop := Claim7.holds Tryd.pinned (.plain (OpenSpec.upto wireSaysSpec)) wireSaysUptoCard

/-- THE SECOND FORM's CARD OF 'reredoslaw.NetSends'. -/
def netSendsUptoCard : Claim7 := { stood := { row := netSendsUptoRow, standIns := [], harness := (true, "2112c9ae3f18c3e0b62850898f9f42d09e3caa563e560960c0419cb00c8e14d3"), looks := true }, kinds := [], alts := [], laidByText := true, laidKinds := [.data], laidTests := true, laidLooks := .later }
def NetSendsUptoCardSaid : Prop := Claim7.holds Tryd.pinned (.plain (OpenSpec.upto netSendsSpec)) netSendsUptoCard

/-- THE SECOND FORM's CARD OF 'reredoslaw.NetTakes'. -/
def netTakesUptoCard : Claim7 := { stood := { row := netTakesUptoRow, standIns := [], harness := (true, "2112c9ae3f18c3e0b62850898f9f42d09e3caa563e560960c0419cb00c8e14d3"), looks := true }, kinds := [], alts := [], laidByText := true, laidKinds := [.data], laidTests := true, laidLooks := .later }
def NetTakesUptoCardSaid : Prop := Claim7.holds Tryd.pinned (.plain (OpenSpec.upto netTakesSpec)) netTakesUptoCard

/-- THE SECOND FORM's CARD OF 'reredoslaw.WireReads'. -/
def wireReadsUptoCard : Claim7 := { stood := { row := wireReadsUptoRow, standIns := [], harness := (true, "2112c9ae3f18c3e0b62850898f9f42d09e3caa563e560960c0419cb00c8e14d3"), looks := true }, kinds := [], alts := [], laidByText := true, laidKinds := [.data], laidTests := true, laidLooks := .later }
def WireReadsUptoCardSaid : Prop := Claim7.holds Tryd.pinned (.plain (OpenSpec.upto wireReadsSpec)) wireReadsUptoCard

/-- THE SECOND FORM's CARD OF 'reredoslaw.WireHears'. -/
def wireHearsUptoCard : Claim7 := { stood := { row := wireHearsUptoRow, standIns := [], harness := (true, "2112c9ae3f18c3e0b62850898f9f42d09e3caa563e560960c0419cb00c8e14d3"), looks := true }, kinds := [], alts := [], laidByText := true, laidKinds := [.data], laidTests := true, laidLooks := .later }
def WireHearsUptoCardSaid : Prop := Claim7.holds Tryd.pinned (.plain (OpenSpec.upto wireHearsSpec)) wireHearsUptoCard

/-- THE SECOND FORM's CARD OF 'reredoslaw.TapeAppends'. -/
def tapeAppendsUptoCard : Claim7 := { stood := { row := tapeAppendsUptoRow, standIns := [], harness := (true, "2112c9ae3f18c3e0b62850898f9f42d09e3caa563e560960c0419cb00c8e14d3"), looks := true }, kinds := [], alts := [], laidByText := true, laidKinds := [.data], laidTests := true, laidLooks := .later }
def TapeAppendsUptoCardSaid : Prop := Claim7.holds Tryd.pinned (.plain (OpenSpec.upto tapeAppendsSpec)) tapeAppendsUptoCard

/-- THE SECOND FORM's CARD OF 'reredoslaw.TapeRecovers'. -/
def tapeRecoversUptoCard : Claim7 := { stood := { row := tapeRecoversUptoRow, standIns := [], harness := (true, "2112c9ae3f18c3e0b62850898f9f42d09e3caa563e560960c0419cb00c8e14d3"), looks := true }, kinds := [], alts := [], laidByText := true, laidKinds := [.data], laidTests := true, laidLooks := .later }
def TapeRecoversUptoCardSaid : Prop := Claim7.holds Tryd.pinned (.plain (OpenSpec.upto tapeRecoversSpec)) tapeRecoversUptoCard

/-- THE SECOND FORM's CARD OF 'reredoslaw.LinesShows'. -/
def linesShowsUptoCard : Claim7 := { stood := { row := linesShowsUptoRow, standIns := [], harness := (true, "2112c9ae3f18c3e0b62850898f9f42d09e3caa563e560960c0419cb00c8e14d3"), looks := true }, kinds := [], alts := [], laidByText := true, laidKinds := [.data, .data, .data, .widerDeep, .widerDeep], laidTests := true, laidLooks := .later }
def LinesShowsUptoCardSaid : Prop := Claim7.holds Tryd.pinned (.plain (OpenSpec.upto linesShowsSpec)) linesShowsUptoCard

/-- THE SECOND FORM's CARD OF 'reredoslaw.ConsoleShows'. -/
def consoleShowsUptoCard : Claim7 := { stood := { row := consoleShowsUptoRow, standIns := [], harness := (true, "2112c9ae3f18c3e0b62850898f9f42d09e3caa563e560960c0419cb00c8e14d3"), looks := true }, kinds := [], alts := [], laidByText := true, laidKinds := [.data, .data, .data], laidTests := true, laidLooks := .later }
def ConsoleShowsUptoCardSaid : Prop := Claim7.holds Tryd.pinned (.plain (OpenSpec.upto consoleShowsSpec)) consoleShowsUptoCard

/-- THE SECOND FORM's CARD OF 'reredoslaw.RecoverRebuilds'. -/
def recoverRebuildsUptoCard : Claim7 := { stood := { row := recoverRebuildsUptoRow, standIns := [], harness := (true, "2112c9ae3f18c3e0b62850898f9f42d09e3caa563e560960c0419cb00c8e14d3"), looks := true }, kinds := [], alts := [], laidByText := true, laidKinds := [.data], laidTests := true, laidLooks := .later }
def RecoverRebuildsUptoCardSaid : Prop := Claim7.holds Tryd.pinned (.plain (OpenSpec.upto recoverRebuildsSpec)) recoverRebuildsUptoCard

/-- THE SECOND FORM's CARD OF 'reredoslaw.PartHears'. -/
def partHearsUptoCard : Claim7 := { stood := { row := partHearsUptoRow, standIns := [], harness := (true, "2112c9ae3f18c3e0b62850898f9f42d09e3caa563e560960c0419cb00c8e14d3"), looks := true }, kinds := [], alts := [], laidByText := true, laidKinds := [.data], laidTests := true, laidLooks := .later }
def PartHearsUptoCardSaid : Prop := Claim7.holds Tryd.pinned (.plain (OpenSpec.upto partHearsSpec)) partHearsUptoCard

/-- THE SECOND FORM's CARD OF 'reredoslaw.CoordHears'. -/
def coordHearsUptoCard : Claim7 := { stood := { row := coordHearsUptoRow, standIns := [], harness := (true, "2112c9ae3f18c3e0b62850898f9f42d09e3caa563e560960c0419cb00c8e14d3"), looks := true }, kinds := [], alts := [], laidByText := true, laidKinds := [.data], laidTests := true, laidLooks := .later }
def CoordHearsUptoCardSaid : Prop := Claim7.holds Tryd.pinned (.plain (OpenSpec.upto coordHearsSpec)) coordHearsUptoCard

/-- THE SECOND FORM's CARD OF 'reredoslaw.ConsoleReads'. -/
def consoleReadsUptoCard : Claim7 := { stood := { row := consoleReadsUptoRow, standIns := [], harness := (true, "2112c9ae3f18c3e0b62850898f9f42d09e3caa563e560960c0419cb00c8e14d3"), looks := true }, kinds := [], alts := [], laidByText := true, laidKinds := [.data, .data, .data, .data, .sentinel, .sentinel, .pinned], laidTests := true, laidLooks := .later }
def ConsoleReadsUptoCardSaid : Prop := Claim7.holds Tryd.pinned (.plain (OpenSpec.upto consoleReadsSpec)) consoleReadsUptoCard

/-- THE SECOND FORM's CARD OF 'reredoslaw.LinesReads'. -/
def linesReadsUptoCard : Claim7 := { stood := { row := linesReadsUptoRow, standIns := [], harness := (true, "2112c9ae3f18c3e0b62850898f9f42d09e3caa563e560960c0419cb00c8e14d3"), looks := true }, kinds := [], alts := [], laidByText := true, laidKinds := [.data, .data, .data, .data, .sentinel, .sentinel, .widerDeep, .widerDeep, .pinned], laidTests := true, laidLooks := .later }
def LinesReadsUptoCardSaid : Prop := Claim7.holds Tryd.pinned (.plain (OpenSpec.upto linesReadsSpec)) linesReadsUptoCard
end Rows
end Go.Proofs.YtobhipeiogljjaaDoor
