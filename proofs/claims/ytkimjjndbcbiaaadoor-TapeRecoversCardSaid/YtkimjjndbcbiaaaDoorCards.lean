/-
  DERIVED. GIVEN WITH THE SEED: THE CARDS: each row of YtkimjjndbcbiaaaDoorRows.lean that lists a variable, with what it lists TIED to the program's text (the seventh form; the later family's looks); each row that meets fmt, with fmt's text TOLD by the authors' own Lean function (tested against real Go, not proved from fmt's source: count such statements apart). THE CARD IS WHAT COUNTS. Prove the row's statement (the work); the ties are given (YtkimjjndbcbiaaaDoorTie.lean); close each card by the builder's one call (the guide's Derived/Test/ToyasCard.lean, 'card_holds'). Laid BY PROGRAM, IN A SANDBOX (cutbox-door.mjs). By AI agents, Wed Nov 11 2026. No macro, syntax, notation, axiom, sorry.
-/
import Derived.Test.YtkimjjndbcbiaaaDoorRows
import GoSem.ClaimSeven
namespace Go.Proofs.YtkimjjndbcbiaaaDoor
namespace Rows

/-- THE TIED CARD OF 'reredoslaw.NetChecks'. -/
def netChecksCard : Claim7 := { stood := { row := netChecksRow, standIns := [], harness := (true, "a973402e2981f671317c843a55223308f4e2caa88084239a870d3e441902b56b"), looks := false }, kinds := [], alts := [], laidByText := true, laidKinds := [.data], laidTests := true, laidLooks := .later }
def NetChecksCardSaid : Prop := Claim7.holds Tryd.pinned (.plain (OpenSpec.ofChange netChecksSpec)) netChecksCard

/-- THE TIED CARD OF 'reredoslaw.WireWrites'. -/
def wireWritesCard : Claim7 := { stood := { row := wireWritesRow, standIns := [], harness := (true, "a973402e2981f671317c843a55223308f4e2caa88084239a870d3e441902b56b"), looks := false }, kinds := [], alts := [], laidByText := true, laidKinds := [.data], laidTests := true, laidLooks := .later }
def WireWritesCardSaid : Prop := Claim7.holds Tryd.pinned (.plain (OpenSpec.ofChange wireWritesSpec)) wireWritesCard

/-- THE TIED CARD OF 'reredoslaw.WireSays'. -/
def wireSaysCard : Claim7 := { stood := { row := wireSaysRow, standIns := [], harness := (true, "a973402e2981f671317c843a55223308f4e2caa88084239a870d3e441902b56b"), looks := false }, kinds := [], alts := [], laidByText := true, laidKinds := [.data], laidTests := true, laidLooks := .later }
def WireSaysCardSaid : Prop := Claim7.holds Tryd.pinned (.plain (OpenSpec.ofChange wireSaysSpec)) wireSaysCard

/-- THE TIED CARD OF 'reredoslaw.NetSends'. -/
def netSendsCard : Claim7 := { stood := { row := netSendsRow, standIns := [], harness := (true, "a973402e2981f671317c843a55223308f4e2caa88084239a870d3e441902b56b"), looks := false }, kinds := [], alts := [], laidByText := true, laidKinds := [.data], laidTests := true, laidLooks := .later }
def NetSendsCardSaid : Prop := Claim7.holds Tryd.pinned (.plain (OpenSpec.ofChange netSendsSpec)) netSendsCard

/-- THE TIED CARD OF 'reredoslaw.NetTakes'. -/
def netTakesCard : Claim7 := { stood := { row := netTakesRow, standIns := [], harness := (true, "a973402e2981f671317c843a55223308f4e2caa88084239a870d3e441902b56b"), looks := false }, kinds := [], alts := [], laidByText := true, laidKinds := [.data], laidTests := true, laidLooks := .later }
def NetTakesCardSaid : Prop := Claim7.holds Tryd.pinned (.plain (OpenSpec.ofChange netTakesSpec)) netTakesCard

/-- THE TIED CARD OF 'reredoslaw.WireReads'. -/
def wireReadsCard : Claim7 := { stood := { row := wireReadsRow, standIns := [], harness := (true, "a973402e2981f671317c843a55223308f4e2caa88084239a870d3e441902b56b"), looks := false }, kinds := [], alts := [], laidByText := true, laidKinds := [.data], laidTests := true, laidLooks := .later }
def WireReadsCardSaid : Prop := Claim7.holds Tryd.pinned (.plain (OpenSpec.ofChange wireReadsSpec)) wireReadsCard

/-- THE TIED CARD OF 'reredoslaw.WireHears'. -/
def wireHearsCard : Claim7 := { stood := { row := wireHearsRow, standIns := [], harness := (true, "a973402e2981f671317c843a55223308f4e2caa88084239a870d3e441902b56b"), looks := false }, kinds := [], alts := [], laidByText := true, laidKinds := [.data], laidTests := true, laidLooks := .later }
def WireHearsCardSaid : Prop := Claim7.holds Tryd.pinned (.plain (OpenSpec.ofChange wireHearsSpec)) wireHearsCard

/-- THE TIED CARD OF 'reredoslaw.TapeAppends'. -/
def tapeAppendsCard : Claim7 := { stood := { row := tapeAppendsRow, standIns := [], harness := (true, "a973402e2981f671317c843a55223308f4e2caa88084239a870d3e441902b56b"), looks := false }, kinds := [], alts := [], laidByText := true, laidKinds := [.data], laidTests := true, laidLooks := .later }
def TapeAppendsCardSaid : Prop := Claim7.holds Tryd.pinned (.plain (OpenSpec.ofChange tapeAppendsSpec)) tapeAppendsCard

/-- THE TIED CARD OF 'reredoslaw.TapeRecovers'. -/
def tapeRecoversCard : Claim7 := { stood := { row := tapeRecoversRow, standIns := [], harness := (true, "a973402e2981f671317c843a55223308f4e2caa88084239a870d3e441902b56b"), looks := false }, kinds := [], alts := [], laidByText := true, laidKinds := [.data], laidTests := true, laidLooks := .later }
def TapeRecoversCardSaid : Prop := Claim7.holds Tryd.pinned (.plain (OpenSpec.ofChange tapeRecoversSpec)) tapeRecoversCard

/-- THE SECOND FORM's CARD OF 'reredoslaw.NetChecks'. -/
def netChecksUptoCard : Claim7 := { stood := { row := netChecksUptoRow, standIns := [], harness := (true, "a973402e2981f671317c843a55223308f4e2caa88084239a870d3e441902b56b"), looks := false }, kinds := [], alts := [], laidByText := true, laidKinds := [.data], laidTests := true, laidLooks := .later }
def NetChecksUptoCardSaid : Prop := Claim7.holds Tryd.pinned (.plain (OpenSpec.upto netChecksSpec)) netChecksUptoCard

/-- THE SECOND FORM's CARD OF 'reredoslaw.WireWrites'. -/
def wireWritesUptoCard : Claim7 := { stood := { row := wireWritesUptoRow, standIns := [], harness := (true, "a973402e2981f671317c843a55223308f4e2caa88084239a870d3e441902b56b"), looks := false }, kinds := [], alts := [], laidByText := true, laidKinds := [.data], laidTests := true, laidLooks := .later }
def WireWritesUptoCardSaid : Prop := Claim7.holds Tryd.pinned (.plain (OpenSpec.upto wireWritesSpec)) wireWritesUptoCard

/-- THE SECOND FORM's CARD OF 'reredoslaw.WireSays'. -/
def wireSaysUptoCard : Claim7 := { stood := { row := wireSaysUptoRow, standIns := [], harness := (true, "a973402e2981f671317c843a55223308f4e2caa88084239a870d3e441902b56b"), looks := false }, kinds := [], alts := [], laidByText := true, laidKinds := [.data], laidTests := true, laidLooks := .later }
def WireSaysUptoCardSaid : Prop := Claim7.holds Tryd.pinned (.plain (OpenSpec.upto wireSaysSpec)) wireSaysUptoCard

/-- THE SECOND FORM's CARD OF 'reredoslaw.NetSends'. -/
def netSendsUptoCard : Claim7 := { stood := { row := netSendsUptoRow, standIns := [], harness := (true, "a973402e2981f671317c843a55223308f4e2caa88084239a870d3e441902b56b"), looks := false }, kinds := [], alts := [], laidByText := true, laidKinds := [.data], laidTests := true, laidLooks := .later }
def NetSendsUptoCardSaid : Prop := Claim7.holds Tryd.pinned (.plain (OpenSpec.upto netSendsSpec)) netSendsUptoCard

/-- THE SECOND FORM's CARD OF 'reredoslaw.NetTakes'. -/
def netTakesUptoCard : Claim7 := { stood := { row := netTakesUptoRow, standIns := [], harness := (true, "a973402e2981f671317c843a55223308f4e2caa88084239a870d3e441902b56b"), looks := false }, kinds := [], alts := [], laidByText := true, laidKinds := [.data], laidTests := true, laidLooks := .later }
def NetTakesUptoCardSaid : Prop := Claim7.holds Tryd.pinned (.plain (OpenSpec.upto netTakesSpec)) netTakesUptoCard

/-- THE SECOND FORM's CARD OF 'reredoslaw.WireReads'. -/
def wireReadsUptoCard : Claim7 := { stood := { row := wireReadsUptoRow, standIns := [], harness := (true, "a973402e2981f671317c843a55223308f4e2caa88084239a870d3e441902b56b"), looks := false }, kinds := [], alts := [], laidByText := true, laidKinds := [.data], laidTests := true, laidLooks := .later }
def WireReadsUptoCardSaid : Prop := Claim7.holds Tryd.pinned (.plain (OpenSpec.upto wireReadsSpec)) wireReadsUptoCard

/-- THE SECOND FORM's CARD OF 'reredoslaw.WireHears'. -/
def wireHearsUptoCard : Claim7 := { stood := { row := wireHearsUptoRow, standIns := [], harness := (true, "a973402e2981f671317c843a55223308f4e2caa88084239a870d3e441902b56b"), looks := false }, kinds := [], alts := [], laidByText := true, laidKinds := [.data], laidTests := true, laidLooks := .later }
def WireHearsUptoCardSaid : Prop := Claim7.holds Tryd.pinned (.plain (OpenSpec.upto wireHearsSpec)) wireHearsUptoCard

/-- THE SECOND FORM's CARD OF 'reredoslaw.TapeAppends'. -/
def tapeAppendsUptoCard : Claim7 := { stood := { row := tapeAppendsUptoRow, standIns := [], harness := (true, "a973402e2981f671317c843a55223308f4e2caa88084239a870d3e441902b56b"), looks := false }, kinds := [], alts := [], laidByText := true, laidKinds := [.data], laidTests := true, laidLooks := .later }
def TapeAppendsUptoCardSaid : Prop := Claim7.holds Tryd.pinned (.plain (OpenSpec.upto tapeAppendsSpec)) tapeAppendsUptoCard

/-- THE SECOND FORM's CARD OF 'reredoslaw.TapeRecovers'. -/
def tapeRecoversUptoCard : Claim7 := { stood := { row := tapeRecoversUptoRow, standIns := [], harness := (true, "a973402e2981f671317c843a55223308f4e2caa88084239a870d3e441902b56b"), looks := false }, kinds := [], alts := [], laidByText := true, laidKinds := [.data], laidTests := true, laidLooks := .later }
def TapeRecoversUptoCardSaid : Prop := Claim7.holds Tryd.pinned (.plain (OpenSpec.upto tapeRecoversSpec)) tapeRecoversUptoCard
end Rows
end Go.Proofs.YtkimjjndbcbiaaaDoor
