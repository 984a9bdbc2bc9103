/-
  No cell of these rows narrows 'for every input' (looked for: loops, veiled, ifaces, maps, wideKeys, modest, calm, conditions, laid).
  DERIVED. THE GIVEN ROWS OF THIS SEAT. 2 by the template 'for every input the law returns true; each argument reads behind the call as it read before'; 0 by the template 'total and deterministic' (their statements: YtkhnakdmkhidbaaTotals.lean).
  GIVEN WITH THE SEED: the statements are not yours to turn. If you find one false, say at which input.
  Laid BY PROGRAM, IN A SANDBOX (cutbox-rows.mjs): the forced cells as the released guide's own fill.sh prints them over the translation 8b0b6eb921dbba3f… (all of the seat's roots in one cut). By AI agents, Wed Nov 11 2026. No macro, syntax, notation, axiom, sorry.
-/
import Derived.Test.YtkhnakdmkhidbaaChecked
import GoSem.Claim
import GoSem.ClaimJoined
import GoSem.ClaimMapViews
import Derived.JoinedTies
import Derived.KernelRfl
namespace Go.Proofs.Ytkhnakdmkhidbaa
/- THE CELL 'sum', in the pinned program and in every row, IS THE sha256 OF THE DUMP (.gsa) THAT YtkhnakdmkhidbaaProg.lean LOADS. Nothing in Lean hashes anything: it is a label: what it is worth is what the hold of that sum in a sandbox is worth. -/
noncomputable def Try.pinned : Pinned := { name := "ytkhnakdmkhidbaa", sum := "8b0b6eb921dbba3f52c35210a7f7a42ed9efa317a33e5a7e3a7cb7a8d9f9c3ee", checked := Try.checked }
namespace Rows
def none {H : Type} : Left H := { results := [], args := [] }

/-- 'reredoslaw.StoreEnds': WHATEVER THE INPUT: true; the input reads as it did. -/
def storeEndsSpec : ChangeSpec := { name := "storeEnds", fn := fun _ => fun
  | [d1, d2, d3] => { results := [.lit (.bool true)], args := [d1, d2, d3] }
  | _ => none }
def storeEndsRow : OpenClaim := { program := "ytkhnakdmkhidbaa", sum := "8b0b6eb921dbba3f52c35210a7f7a42ed9efa317a33e5a7e3a7cb7a8d9f9c3ee", func := "reredos/reredoslaw.StoreEnds", spec := "storeEnds", inPlace := ["slices.overlaps[reredos/api.Item]"], unfollowed := true, recurses := true, apart := false }
def StoreEndsSaid : Prop := storeEndsRow.holds Try.pinned (OpenSpec.ofChange storeEndsSpec)

/-- ITS FALSE NEIGHBOUR: 'it returns false'. Refute it at one input. -/
def storeEndsWrong : ChangeSpec := { name := "storeEnds", fn := fun _ => fun
  | [d1, d2, d3] => { results := [.lit (.bool false)], args := [d1, d2, d3] }
  | _ => none }
def StoreEndsWrongFalsely : Prop := storeEndsRow.holds Try.pinned (OpenSpec.ofChange storeEndsWrong)

/-- 'reredoslaw.PartForces': WHATEVER THE INPUT: true; the input reads as it did. -/
def partForcesSpec : ChangeSpec := { name := "partForces", fn := fun _ => fun
  | [d1, d2, d3, d4, d5, d6, d7] => { results := [.lit (.bool true)], args := [d1, d2, d3, d4, d5, d6, d7] }
  | _ => none }
def partForcesRow : OpenClaim := { program := "ytkhnakdmkhidbaa", sum := "8b0b6eb921dbba3f52c35210a7f7a42ed9efa317a33e5a7e3a7cb7a8d9f9c3ee", func := "reredos/reredoslaw.PartForces", spec := "partForces", inPlace := ["slices.overlaps[reredos/api.Item]"], unfollowed := true, recurses := true, apart := false }
def PartForcesSaid : Prop := partForcesRow.holds Try.pinned (OpenSpec.ofChange partForcesSpec)

/-- ITS FALSE NEIGHBOUR: 'it returns false'. Refute it at one input. -/
def partForcesWrong : ChangeSpec := { name := "partForces", fn := fun _ => fun
  | [d1, d2, d3, d4, d5, d6, d7] => { results := [.lit (.bool false)], args := [d1, d2, d3, d4, d5, d6, d7] }
  | _ => none }
def PartForcesWrongFalsely : Prop := partForcesRow.holds Try.pinned (OpenSpec.ofChange partForcesWrong)

/- THE SECOND FORM. 'bulk': how many values and letters a reading holds, each counted each time it is reached (what is shared counts as often as it is met; a slice's spare places count too). A statement '..UptoSaid' is the law's where the arguments, and the package variables that the reading takes, are together of bulk at most 1048576: NARROWER than '..Said'. Prove '..Said' where nothing that the law and all that it calls make is longer than what came in: it says more and counts as full. Else prove '..UptoSaid'. A law counts once. -/
mutual
def uptoBulk {H : Type} : DataW H → Nat
  | .lit (.string bytes) => bytes.length + 1
  | .lit _ => 1
  | .nil => 1
  | .ptr d => uptoBulk d + 1
  | .slice elems spare => uptoBulkAll elems + uptoBulkAll spare + 1
  | .agg parts => uptoBulkAll parts + 1
  | .iface _ d => uptoBulk d + 1
  | .map entries => uptoBulkEntries entries + 1
  | .held _ => 1
def uptoBulkAll {H : Type} : List (DataW H) → Nat
  | [] => 0
  | d :: r => uptoBulk d + uptoBulkAll r
def uptoBulkEntries {H : Type} : List (Lit × DataW H) → Nat
  | [] => 0
  | x :: r => uptoBulkEntry x + uptoBulkEntries r
def uptoBulkEntry {H : Type} : Lit × DataW H → Nat
  | (.string bytes, d) => bytes.length + uptoBulk d + 1
  | (_, d) => uptoBulk d + 1
 end
def uptoSmall : (H : Type) → List (DataW H) → Bool := fun _ ds => decide (uptoBulkAll ds ≤ 1048576)
def OpenSpec.upto (s : _root_.Go.ChangeSpec) : _root_.Go.OpenSpec := { _root_.Go.OpenSpec.ofChange s with cond := some uptoSmall }

/-- 'reredoslaw.StoreEnds', WHERE WHAT IT READS IS OF BULK AT MOST 1048576: true; the input reads as it did. -/
def storeEndsUptoRow : OpenClaim := { program := "ytkhnakdmkhidbaa", sum := "8b0b6eb921dbba3f52c35210a7f7a42ed9efa317a33e5a7e3a7cb7a8d9f9c3ee", func := "reredos/reredoslaw.StoreEnds", spec := "storeEnds", inPlace := ["slices.overlaps[reredos/api.Item]"], unfollowed := true, recurses := true, apart := false, narrowed := true }
def StoreEndsUptoSaid : Prop := storeEndsUptoRow.holds Try.pinned (OpenSpec.upto storeEndsSpec)

/-- 'reredoslaw.PartForces', WHERE WHAT IT READS IS OF BULK AT MOST 1048576: true; the input reads as it did. -/
def partForcesUptoRow : OpenClaim := { program := "ytkhnakdmkhidbaa", sum := "8b0b6eb921dbba3f52c35210a7f7a42ed9efa317a33e5a7e3a7cb7a8d9f9c3ee", func := "reredos/reredoslaw.PartForces", spec := "partForces", inPlace := ["slices.overlaps[reredos/api.Item]"], unfollowed := true, recurses := true, apart := false, narrowed := true }
def PartForcesUptoSaid : Prop := partForcesUptoRow.holds Try.pinned (OpenSpec.upto partForcesSpec)

end Rows
end Go.Proofs.Ytkhnakdmkhidbaa
