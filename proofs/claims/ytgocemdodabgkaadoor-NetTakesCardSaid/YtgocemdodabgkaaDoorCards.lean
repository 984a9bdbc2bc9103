/-
  DERIVED. GIVEN WITH THE SEED: THE CARDS: each row of YtgocemdodabgkaaDoorRows.lean that lists a variable, with what it lists TIED to the program's text (the seventh form; the later family's looks); each row that meets fmt, with fmt's text TOLD by the authors' own Lean function (tested against real Go, not proved from fmt's source: count such statements apart). THE CARD IS WHAT COUNTS. Prove the row's statement (the work); the ties are given (YtgocemdodabgkaaDoorTie.lean); close each card by the builder's one call (the guide's Derived/Test/ToyasCard.lean, 'card_holds'). Laid BY PROGRAM, IN A SANDBOX (cutbox-door.mjs). By AI agents, Wed Nov 11 2026. No macro, syntax, notation, axiom, sorry.
-/
import Derived.Test.YtgocemdodabgkaaDoorRows
import GoSem.ClaimSeven
namespace Go.Proofs.YtgocemdodabgkaaDoor
namespace Rows

/-- THE TIED CARD OF 'reredoslaw.RecoverRebuilds'. -/
def recoverRebuildsCard : Claim7 := { stood := { row := recoverRebuildsRow, standIns := [], harness := (true, "aee27f360a8b1bf762edf0ca9c3a36bebd452c81c5f5560dcfc84c55e3dab00f"), looks := false }, kinds := [], alts := [], laidByText := true, laidKinds := [.data], laidTests := true, laidLooks := .later }
def RecoverRebuildsCardSaid : Prop := Claim7.holds Tryd.pinned (.plain (OpenSpec.ofChange recoverRebuildsSpec)) recoverRebuildsCard

/-- THE TIED CARD OF 'reredoslaw.NetSends'. -/
def netSendsCard : Claim7 := { stood := { row := netSendsRow, standIns := [], harness := (true, "aee27f360a8b1bf762edf0ca9c3a36bebd452c81c5f5560dcfc84c55e3dab00f"), looks := false }, kinds := [], alts := [], laidByText := true, laidKinds := [.data], laidTests := true, laidLooks := .later }
def NetSendsCardSaid : Prop := Claim7.holds Tryd.pinned (.plain (OpenSpec.ofChange netSendsSpec)) netSendsCard

/-- THE TIED CARD OF 'reredoslaw.NetTakes'. -/
def netTakesCard : Claim7 := { stood := { row := netTakesRow, standIns := [], harness := (true, "aee27f360a8b1bf762edf0ca9c3a36bebd452c81c5f5560dcfc84c55e3dab00f"), looks := false }, kinds := [], alts := [], laidByText := true, laidKinds := [.data], laidTests := true, laidLooks := .later }
def NetTakesCardSaid : Prop := Claim7.holds Tryd.pinned (.plain (OpenSpec.ofChange netTakesSpec)) netTakesCard

/-- THE TIED CARD OF 'reredoslaw.CoordHears'. -/
def coordHearsCard : Claim7 := { stood := { row := coordHearsRow, standIns := [], harness := (true, "aee27f360a8b1bf762edf0ca9c3a36bebd452c81c5f5560dcfc84c55e3dab00f"), looks := false }, kinds := [], alts := [], laidByText := true, laidKinds := [.data], laidTests := true, laidLooks := .later }
def CoordHearsCardSaid : Prop := Claim7.holds Tryd.pinned (.plain (OpenSpec.ofChange coordHearsSpec)) coordHearsCard

/-- THE SECOND FORM's CARD OF 'reredoslaw.RecoverRebuilds'. -/
def recoverRebuildsUptoCard : Claim7 := { stood := { row := recoverRebuildsUptoRow, standIns := [], harness := (true, "aee27f360a8b1bf762edf0ca9c3a36bebd452c81c5f5560dcfc84c55e3dab00f"), looks := false }, kinds := [], alts := [], laidByText := true, laidKinds := [.data], laidTests := true, laidLooks := .later }
def RecoverRebuildsUptoCardSaid : Prop := Claim7.holds Tryd.pinned (.plain (OpenSpec.upto recoverRebuildsSpec)) recoverRebuildsUptoCard

/-- THE SECOND FORM's CARD OF 'reredoslaw.NetSends'. -/
def netSendsUptoCard : Claim7 := { stood := { row := netSendsUptoRow, standIns := [], harness := (true, "aee27f360a8b1bf762edf0ca9c3a36bebd452c81c5f5560dcfc84c55e3dab00f"), looks := false }, kinds := [], alts := [], laidByText := true, laidKinds := [.data], laidTests := true, laidLooks := .later }
def NetSendsUptoCardSaid : Prop := Claim7.holds Tryd.pinned (.plain (OpenSpec.upto netSendsSpec)) netSendsUptoCard

/-- THE SECOND FORM's CARD OF 'reredoslaw.NetTakes'. -/
def netTakesUptoCard : Claim7 := { stood := { row := netTakesUptoRow, standIns := [], harness := (true, "aee27f360a8b1bf762edf0ca9c3a36bebd452c81c5f5560dcfc84c55e3dab00f"), looks := false }, kinds := [], alts := [], laidByText := true, laidKinds := [.data], laidTests := true, laidLooks := .later }
def NetTakesUptoCardSaid : Prop := Claim7.holds Tryd.pinned (.plain (OpenSpec.upto netTakesSpec)) netTakesUptoCard

/-- THE SECOND FORM's CARD OF 'reredoslaw.CoordHears'. -/
def coordHearsUptoCard : Claim7 := { stood := { row := coordHearsUptoRow, standIns := [], harness := (true, "aee27f360a8b1bf762edf0ca9c3a36bebd452c81c5f5560dcfc84c55e3dab00f"), looks := false }, kinds := [], alts := [], laidByText := true, laidKinds := [.data], laidTests := true, laidLooks := .later }
def CoordHearsUptoCardSaid : Prop := Claim7.holds Tryd.pinned (.plain (OpenSpec.upto coordHearsSpec)) coordHearsUptoCard
end Rows
end Go.Proofs.YtgocemdodabgkaaDoor
