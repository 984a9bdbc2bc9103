/-
  DERIVED. GIVEN WITH THE SEED: THE CARDS: each row of YtnkcmkegjckncaaDoorRows.lean that lists a variable, with what it lists TIED to the program's text (the seventh form; the later family's looks); each row that meets fmt, with fmt's text TOLD by the authors' own Lean function (tested against real Go, not proved from fmt's source: count such statements apart). THE CARD IS WHAT COUNTS. Prove the row's statement (the work); the ties are given (YtnkcmkegjckncaaDoorTie.lean); close each card by the builder's one call (the guide's Derived/Test/ToyasCard.lean, 'card_holds'). Laid BY PROGRAM, IN A SANDBOX (cutbox-door.mjs). By AI agents, Wed Nov 11 2026. No macro, syntax, notation, axiom, sorry.
-/
import Derived.Test.YtnkcmkegjckncaaDoorRows
import GoSem.ClaimSeven
namespace Go.Proofs.YtnkcmkegjckncaaDoor
namespace Rows

/-- THE TIED CARD OF 'reredoslaw.CoordHears'. -/
def coordHearsCard : Claim7 := { stood := { row := coordHearsRow, standIns := [], harness := (true, "9a2c9ebb2c41da47852883c621fa4e07e65d9e1def1b291d0a301d6c7367b86e"), looks := false }, kinds := [], alts := [], laidByText := true, laidKinds := [.data], laidTests := true, laidLooks := .later }
def CoordHearsCardSaid : Prop := Claim7.holds Tryd.pinned (.plain (OpenSpec.ofChange coordHearsSpec)) coordHearsCard

/-- THE SECOND FORM's CARD OF 'reredoslaw.CoordHears'. -/
def coordHearsUptoCard : Claim7 := { stood := { row := coordHearsUptoRow, standIns := [], harness := (true, "9a2c9ebb2c41da47852883c621fa4e07e65d9e1def1b291d0a301d6c7367b86e"), looks := false }, kinds := [], alts := [], laidByText := true, laidKinds := [.data], laidTests := true, laidLooks := .later }
def CoordHearsUptoCardSaid : Prop := Claim7.holds Tryd.pinned (.plain (OpenSpec.upto coordHearsSpec)) coordHearsUptoCard
end Rows
end Go.Proofs.YtnkcmkegjckncaaDoor
