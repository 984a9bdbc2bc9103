/-
  No cell of these rows narrows 'for every input' (looked for: loops, veiled, ifaces, maps, wideKeys, modest, calm, conditions, laid).
  DERIVED. THE GIVEN ROWS OF THIS SEAT. 2 by the template 'for every input the law returns true; each argument reads behind the call as it read before'; 0 by the template 'total and deterministic' (their statements: YtnkcmkegjckncaaTotals.lean).
  GIVEN WITH THE SEED: the statements are not yours to turn. If you find one false, say at which input.
  Laid BY PROGRAM, IN A SANDBOX (cutbox-rows.mjs): the forced cells as the released guide's own fill.sh prints them over the translation 730136f6d3b65d2f… (all of the seat's roots in one cut). By AI agents, Wed Nov 11 2026. No macro, syntax, notation, axiom, sorry.
-/
import Derived.Test.YtnkcmkegjckncaaChecked
import GoSem.Claim
import GoSem.ClaimJoined
import GoSem.ClaimMapViews
import Derived.JoinedTies
import Derived.KernelRfl
namespace Go.Proofs.Ytnkcmkegjckncaa
/- THE CELL 'sum', in the pinned program and in every row, IS THE sha256 OF THE DUMP (.gsa) THAT YtnkcmkegjckncaaProg.lean LOADS. Nothing in Lean hashes anything: it is a label: what it is worth is what the hold of that sum in a sandbox is worth. -/
noncomputable def Try.pinned : Pinned := { name := "ytnkcmkegjckncaa", sum := "730136f6d3b65d2fe55cb6e33be7e0f60dae57d6ef712dcca6aa784c8dd6962c", checked := Try.checked }
namespace Rows
def none {H : Type} : Left H := { results := [], args := [] }

/-- 'reredoslaw.CoordTicks': WHATEVER THE INPUT: true; the input reads as it did. -/
def coordTicksSpec : ChangeSpec := { name := "coordTicks", fn := fun _ => fun
  | [d1, d2, d3, d4] => { results := [.lit (.bool true)], args := [d1, d2, d3, d4] }
  | _ => none }
def coordTicksRow : OpenClaim := { program := "ytnkcmkegjckncaa", sum := "730136f6d3b65d2fe55cb6e33be7e0f60dae57d6ef712dcca6aa784c8dd6962c", func := "reredos/reredoslaw.CoordTicks", spec := "coordTicks", unfollowed := true, recurses := true, apart := false }
def CoordTicksSaid : Prop := coordTicksRow.holds Try.pinned (OpenSpec.ofChange coordTicksSpec)

/-- ITS FALSE NEIGHBOUR: 'it returns false'. Refute it at one input. -/
def coordTicksWrong : ChangeSpec := { name := "coordTicks", fn := fun _ => fun
  | [d1, d2, d3, d4] => { results := [.lit (.bool false)], args := [d1, d2, d3, d4] }
  | _ => none }
def CoordTicksWrongFalsely : Prop := coordTicksRow.holds Try.pinned (OpenSpec.ofChange coordTicksWrong)

/-- 'reredoslaw.CoordCalls': WHATEVER THE INPUT: true; the input reads as it did. -/
def coordCallsSpec : ChangeSpec := { name := "coordCalls", fn := fun _ => fun
  | [d1, d2, d3, d4, d5, d6] => { results := [.lit (.bool true)], args := [d1, d2, d3, d4, d5, d6] }
  | _ => none }
def coordCallsRow : OpenClaim := { program := "ytnkcmkegjckncaa", sum := "730136f6d3b65d2fe55cb6e33be7e0f60dae57d6ef712dcca6aa784c8dd6962c", func := "reredos/reredoslaw.CoordCalls", spec := "coordCalls", unfollowed := true, recurses := true, apart := false }
def CoordCallsSaid : Prop := coordCallsRow.holds Try.pinned (OpenSpec.ofChange coordCallsSpec)

/-- ITS FALSE NEIGHBOUR: 'it returns false'. Refute it at one input. -/
def coordCallsWrong : ChangeSpec := { name := "coordCalls", fn := fun _ => fun
  | [d1, d2, d3, d4, d5, d6] => { results := [.lit (.bool false)], args := [d1, d2, d3, d4, d5, d6] }
  | _ => none }
def CoordCallsWrongFalsely : Prop := coordCallsRow.holds Try.pinned (OpenSpec.ofChange coordCallsWrong)

/- THE SECOND FORM. 'bulk': how many values and letters a reading holds, each counted each time it is reached (what is shared counts as often as it is met; a slice's spare places count too). A statement '..UptoSaid' is the law's where the arguments, and the package variables that the reading takes, are together of bulk at most 1048576: NARROWER than '..Said'. Prove '..Said' where nothing that the law and all that it calls make is longer than what came in: it says more and counts as full. Else prove '..UptoSaid'. A law counts once. -/
mutual
def uptoBulk {H : Type} : DataW H → Nat
  | .lit (.string bytes) => bytes.length + 1
  | .lit _ => 1
  | .nil => 1
  | .ptr d => uptoBulk d + 1
  | .slice elems spare => uptoBulkAll elems + uptoBulkAll spare + 1
  | .agg parts => uptoBulkAll parts + 1
  | .iface _ d => uptoBulk d + 1
  | .map entries => uptoBulkEntries entries + 1
  | .held _ => 1
def uptoBulkAll {H : Type} : List (DataW H) → Nat
  | [] => 0
  | d :: r => uptoBulk d + uptoBulkAll r
def uptoBulkEntries {H : Type} : List (Lit × DataW H) → Nat
  | [] => 0
  | x :: r => uptoBulkEntry x + uptoBulkEntries r
def uptoBulkEntry {H : Type} : Lit × DataW H → Nat
  | (.string bytes, d) => bytes.length + uptoBulk d + 1
  | (_, d) => uptoBulk d + 1
 end
def uptoSmall : (H : Type) → List (DataW H) → Bool := fun _ ds => decide (uptoBulkAll ds ≤ 1048576)
def OpenSpec.upto (s : _root_.Go.ChangeSpec) : _root_.Go.OpenSpec := { _root_.Go.OpenSpec.ofChange s with cond := some uptoSmall }

/-- 'reredoslaw.CoordTicks', WHERE WHAT IT READS IS OF BULK AT MOST 1048576: true; the input reads as it did. -/
def coordTicksUptoRow : OpenClaim := { program := "ytnkcmkegjckncaa", sum := "730136f6d3b65d2fe55cb6e33be7e0f60dae57d6ef712dcca6aa784c8dd6962c", func := "reredos/reredoslaw.CoordTicks", spec := "coordTicks", unfollowed := true, recurses := true, apart := false, narrowed := true }
def CoordTicksUptoSaid : Prop := coordTicksUptoRow.holds Try.pinned (OpenSpec.upto coordTicksSpec)

/-- 'reredoslaw.CoordCalls', WHERE WHAT IT READS IS OF BULK AT MOST 1048576: true; the input reads as it did. -/
def coordCallsUptoRow : OpenClaim := { program := "ytnkcmkegjckncaa", sum := "730136f6d3b65d2fe55cb6e33be7e0f60dae57d6ef712dcca6aa784c8dd6962c", func := "reredos/reredoslaw.CoordCalls", spec := "coordCalls", unfollowed := true, recurses := true, apart := false, narrowed := true }
def CoordCallsUptoSaid : Prop := coordCallsUptoRow.holds Try.pinned (OpenSpec.upto coordCallsSpec)

end Rows
end Go.Proofs.Ytnkcmkegjckncaa
