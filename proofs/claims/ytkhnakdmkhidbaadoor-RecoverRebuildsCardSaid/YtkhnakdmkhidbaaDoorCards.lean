/-
  DERIVED. GIVEN WITH THE SEED: THE CARDS: each row of YtkhnakdmkhidbaaDoorRows.lean that lists a variable, with what it lists TIED to the program's text (the seventh form; the later family's looks); each row that meets fmt, with fmt's text TOLD by the authors' own Lean function (tested against real Go, not proved from fmt's source: count such statements apart). THE CARD IS WHAT COUNTS. Prove the row's statement (the work); the ties are given (YtkhnakdmkhidbaaDoorTie.lean); close each card by the builder's one call (the guide's Derived/Test/ToyasCard.lean, 'card_holds'). Laid BY PROGRAM, IN A SANDBOX (cutbox-door.mjs). By AI agents, Wed Nov 11 2026. No macro, syntax, notation, axiom, sorry.
-/
import Derived.Test.YtkhnakdmkhidbaaDoorRows
import GoSem.ClaimSeven
namespace Go.Proofs.YtkhnakdmkhidbaaDoor
namespace Rows

/-- THE TIED CARD OF 'reredoslaw.PartHears'. -/
def partHearsCard : Claim7 := { stood := { row := partHearsRow, standIns := [], harness := (true, "275b06af70fe9060d3de576ea72426aadc28b0b5d31fd7ba2ae8cba6391c4fd3"), looks := false }, kinds := [], alts := [], laidByText := true, laidKinds := [.data], laidTests := true, laidLooks := .later }
def PartHearsCardSaid : Prop := Claim7.holds Tryd.pinned (.plain (OpenSpec.ofChange partHearsSpec)) partHearsCard

/-- THE TIED CARD OF 'reredoslaw.RecoverRebuilds'. -/
def recoverRebuildsCard : Claim7 := { stood := { row := recoverRebuildsRow, standIns := [], harness := (true, "275b06af70fe9060d3de576ea72426aadc28b0b5d31fd7ba2ae8cba6391c4fd3"), looks := false }, kinds := [], alts := [], laidByText := true, laidKinds := [.data], laidTests := true, laidLooks := .later }
def RecoverRebuildsCardSaid : Prop := Claim7.holds Tryd.pinned (.plain (OpenSpec.ofChange recoverRebuildsSpec)) recoverRebuildsCard

/-- THE SECOND FORM's CARD OF 'reredoslaw.PartHears'. -/
def partHearsUptoCard : Claim7 := { stood := { row := partHearsUptoRow, standIns := [], harness := (true, "275b06af70fe9060d3de576ea72426aadc28b0b5d31fd7ba2ae8cba6391c4fd3"), looks := false }, kinds := [], alts := [], laidByText := true, laidKinds := [.data], laidTests := true, laidLooks := .later }
def PartHearsUptoCardSaid : Prop := Claim7.holds Tryd.pinned (.plain (OpenSpec.upto partHearsSpec)) partHearsUptoCard

/-- THE SECOND FORM's CARD OF 'reredoslaw.RecoverRebuilds'. -/
def recoverRebuildsUptoCard : Claim7 := { stood := { row := recoverRebuildsUptoRow, standIns := [], harness := (true, "275b06af70fe9060d3de576ea72426aadc28b0b5d31fd7ba2ae8cba6391c4fd3"), looks := false }, kinds := [], alts := [], laidByText := true, laidKinds := [.data], laidTests := true, laidLooks := .later }
def RecoverRebuildsUptoCardSaid : Prop := Claim7.holds Tryd.pinned (.plain (OpenSpec.upto recoverRebuildsSpec)) recoverRebuildsUptoCard
end Rows
end Go.Proofs.YtkhnakdmkhidbaaDoor
