/-
  DERIVED. GIVEN WITH THE SEED: THE CARDS: each row of YtedjlbcclhgfmaaDoorRows.lean that lists a variable, with what it lists TIED to the program's text (the seventh form; the later family's looks); each row that meets fmt, with fmt's text TOLD by the authors' own Lean function (tested against real Go, not proved from fmt's source: count such statements apart). THE CARD IS WHAT COUNTS. Prove the row's statement (the work); the ties are given (YtedjlbcclhgfmaaDoorTie.lean); close each card by the builder's one call (the guide's Derived/Test/ToyasCard.lean, 'card_holds'). Laid BY PROGRAM, IN A SANDBOX (cutbox-door.mjs). By AI agents, Wed Nov 11 2026. No macro, syntax, notation, axiom, sorry.
-/
import Derived.Test.YtedjlbcclhgfmaaDoorRows
import GoSem.ClaimSeven
namespace Go.Proofs.YtedjlbcclhgfmaaDoor
namespace Rows

/-- THE TIED CARD OF 'reredoslaw.LinesShows'. -/
def linesShowsCard : Claim7 := { stood := { row := linesShowsRow, standIns := [], harness := (true, "5ad421cb08b26c948f2e77e7cdb4a2f0b17b646645aac497d2f1ceeb78a4a55f"), looks := true }, kinds := [], alts := [], laidByText := true, laidKinds := [.data, .data, .data, .widerDeep, .widerDeep], laidTests := true, laidLooks := .later }
def LinesShowsCardSaid : Prop := Claim7.holds Tryd.pinned (.plain (OpenSpec.ofChange linesShowsSpec)) linesShowsCard

/-- THE TIED CARD OF 'reredoslaw.ConsoleShows'. -/
def consoleShowsCard : Claim7 := { stood := { row := consoleShowsRow, standIns := [], harness := (true, "5ad421cb08b26c948f2e77e7cdb4a2f0b17b646645aac497d2f1ceeb78a4a55f"), looks := true }, kinds := [], alts := [], laidByText := true, laidKinds := [.data, .data, .data], laidTests := true, laidLooks := .later }
def ConsoleShowsCardSaid : Prop := Claim7.holds Tryd.pinned (.plain (OpenSpec.ofChange consoleShowsSpec)) consoleShowsCard

/-- THE TIED CARD OF 'reredoslaw.ConsoleReads'. -/
def consoleReadsCard : Claim7 := { stood := { row := consoleReadsRow, standIns := [], harness := (true, "5ad421cb08b26c948f2e77e7cdb4a2f0b17b646645aac497d2f1ceeb78a4a55f"), looks := true }, kinds := [], alts := [], laidByText := true, laidKinds := [.data, .data, .data, .data, .sentinel, .sentinel, .pinned], laidTests := true, laidLooks := .later }
def ConsoleReadsCardSaid : Prop := Claim7.holds Tryd.pinned (.plain (OpenSpec.ofChange consoleReadsSpec)) consoleReadsCard

/-- THE TIED CARD OF 'reredoslaw.LinesReads'. -/
def linesReadsCard : Claim7 := { stood := { row := linesReadsRow, standIns := [], harness := (true, "5ad421cb08b26c948f2e77e7cdb4a2f0b17b646645aac497d2f1ceeb78a4a55f"), looks := true }, kinds := [], alts := [], laidByText := true, laidKinds := [.data, .data, .data, .data, .sentinel, .sentinel, .widerDeep, .widerDeep, .pinned], laidTests := true, laidLooks := .later }
def LinesReadsCardSaid : Prop := Claim7.holds Tryd.pinned (.plain (OpenSpec.ofChange linesReadsSpec)) linesReadsCard

/-- THE SECOND FORM's CARD OF 'reredoslaw.LinesShows'. -/
def linesShowsUptoCard : Claim7 := { stood := { row := linesShowsUptoRow, standIns := [], harness := (true, "5ad421cb08b26c948f2e77e7cdb4a2f0b17b646645aac497d2f1ceeb78a4a55f"), looks := true }, kinds := [], alts := [], laidByText := true, laidKinds := [.data, .data, .data, .widerDeep, .widerDeep], laidTests := true, laidLooks := .later }
def LinesShowsUptoCardSaid : Prop := Claim7.holds Tryd.pinned (.plain (OpenSpec.upto linesShowsSpec)) linesShowsUptoCard

/-- THE SECOND FORM's CARD OF 'reredoslaw.ConsoleShows'. -/
def consoleShowsUptoCard : Claim7 := { stood := { row := consoleShowsUptoRow, standIns := [], harness := (true, "5ad421cb08b26c948f2e77e7cdb4a2f0b17b646645aac497d2f1ceeb78a4a55f"), looks := true }, kinds := [], alts := [], laidByText := true, laidKinds := [.data, .data, .data], laidTests := true, laidLooks := .later }
def ConsoleShowsUptoCardSaid : Prop := Claim7.holds Tryd.pinned (.plain (OpenSpec.upto consoleShowsSpec)) consoleShowsUptoCard

/-- THE SECOND FORM's CARD OF 'reredoslaw.ConsoleReads'. -/
def consoleReadsUptoCard : Claim7 := { stood := { row := consoleReadsUptoRow, standIns := [], harness := (true, "5ad421cb08b26c948f2e77e7cdb4a2f0b17b646645aac497d2f1ceeb78a4a55f"), looks := true }, kinds := [], alts := [], laidByText := true, laidKinds := [.data, .data, .data, .data, .sentinel, .sentinel, .pinned], laidTests := true, laidLooks := .later }
def ConsoleReadsUptoCardSaid : Prop := Claim7.holds Tryd.pinned (.plain (OpenSpec.upto consoleReadsSpec)) consoleReadsUptoCard

/-- THE SECOND FORM's CARD OF 'reredoslaw.LinesReads'. -/
def linesReadsUptoCard : Claim7 := { stood := { row := linesReadsUptoRow, standIns := [], harness := (true, "5ad421cb08b26c948f2e77e7cdb4a2f0b17b646645aac497d2f1ceeb78a4a55f"), looks := true }, kinds := [], alts := [], laidByText := true, laidKinds := [.data, .data, .data, .data, .sentinel, .sentinel, .widerDeep, .widerDeep, .pinned], laidTests := true, laidLooks := .later }
def LinesReadsUptoCardSaid : Prop := Claim7.holds Tryd.pinned (.plain (OpenSpec.upto linesReadsSpec)) linesReadsUptoCard
end Rows
end Go.Proofs.YtedjlbcclhgfmaaDoor
