/-
  No cell of these rows narrows 'for every input' (looked for: loops, veiled, ifaces, maps, wideKeys, modest, calm, conditions, laid).
  DERIVED. THE GIVEN ROWS OF THIS SEAT. 9 by the template 'for every input the law returns true; each argument reads behind the call as it read before'; 0 by the template 'total and deterministic' (their statements: YtoalcmpjfnlkdaaTotals.lean).
  GIVEN WITH THE SEED: the statements are not yours to turn. If you find one false, say at which input.
  Laid BY PROGRAM, IN A SANDBOX (cutbox-rows.mjs): the forced cells as the released guide's own fill.sh prints them over the translation 447a1608a4ccc0ec… (all of the seat's roots in one cut). By AI agents, Wed Nov 11 2026. No macro, syntax, notation, axiom, sorry.
-/
import Derived.Test.YtoalcmpjfnlkdaaChecked
import GoSem.Claim
import GoSem.ClaimJoined
import GoSem.ClaimMapViews
import Derived.JoinedTies
import Derived.KernelRfl
namespace Go.Proofs.Ytoalcmpjfnlkdaa
/- THE CELL 'sum', in the pinned program and in every row, IS THE sha256 OF THE DUMP (.gsa) THAT YtoalcmpjfnlkdaaProg.lean LOADS. Nothing in Lean hashes anything: it is a label: what it is worth is what the hold of that sum in a sandbox is worth. -/
noncomputable def Try.pinned : Pinned := { name := "ytoalcmpjfnlkdaa", sum := "447a1608a4ccc0ecaccf80477c56613b01ffce4e63819668d2ed53c1a33d6ed3", checked := Try.checked }
namespace Rows
def none {H : Type} : Left H := { results := [], args := [] }

/-- 'reredoslaw.StoreChecks': WHATEVER THE INPUT: true; the input reads as it did. -/
def storeChecksSpec : ChangeSpec := { name := "storeChecks", fn := fun _ => fun
  | [d] => { results := [.lit (.bool true)], args := [d] }
  | _ => none }
def storeChecksRow : OpenClaim := { program := "ytoalcmpjfnlkdaa", sum := "447a1608a4ccc0ecaccf80477c56613b01ffce4e63819668d2ed53c1a33d6ed3", func := "reredos/reredoslaw.StoreChecks", spec := "storeChecks", unfollowed := true, recurses := true, apart := false }
def StoreChecksSaid : Prop := storeChecksRow.holds Try.pinned (OpenSpec.ofChange storeChecksSpec)

/-- ITS FALSE NEIGHBOUR: 'it returns false'. Refute it at one input. -/
def storeChecksWrong : ChangeSpec := { name := "storeChecks", fn := fun _ => fun
  | [d] => { results := [.lit (.bool false)], args := [d] }
  | _ => none }
def StoreChecksWrongFalsely : Prop := storeChecksRow.holds Try.pinned (OpenSpec.ofChange storeChecksWrong)

/-- 'reredoslaw.StoreCounts': WHATEVER THE INPUT: true; the input reads as it did. -/
def storeCountsSpec : ChangeSpec := { name := "storeCounts", fn := fun _ => fun
  | [d1, d2] => { results := [.lit (.bool true)], args := [d1, d2] }
  | _ => none }
def storeCountsRow : OpenClaim := { program := "ytoalcmpjfnlkdaa", sum := "447a1608a4ccc0ecaccf80477c56613b01ffce4e63819668d2ed53c1a33d6ed3", func := "reredos/reredoslaw.StoreCounts", spec := "storeCounts", unfollowed := true, recurses := true, apart := false }
def StoreCountsSaid : Prop := storeCountsRow.holds Try.pinned (OpenSpec.ofChange storeCountsSpec)

/-- ITS FALSE NEIGHBOUR: 'it returns false'. Refute it at one input. -/
def storeCountsWrong : ChangeSpec := { name := "storeCounts", fn := fun _ => fun
  | [d1, d2] => { results := [.lit (.bool false)], args := [d1, d2] }
  | _ => none }
def StoreCountsWrongFalsely : Prop := storeCountsRow.holds Try.pinned (OpenSpec.ofChange storeCountsWrong)

/-- 'reredoslaw.StoreAges': WHATEVER THE INPUT: true; the input reads as it did. -/
def storeAgesSpec : ChangeSpec := { name := "storeAges", fn := fun _ => fun
  | [d1, d2] => { results := [.lit (.bool true)], args := [d1, d2] }
  | _ => none }
def storeAgesRow : OpenClaim := { program := "ytoalcmpjfnlkdaa", sum := "447a1608a4ccc0ecaccf80477c56613b01ffce4e63819668d2ed53c1a33d6ed3", func := "reredos/reredoslaw.StoreAges", spec := "storeAges", unfollowed := true, recurses := true, apart := false }
def StoreAgesSaid : Prop := storeAgesRow.holds Try.pinned (OpenSpec.ofChange storeAgesSpec)

/-- ITS FALSE NEIGHBOUR: 'it returns false'. Refute it at one input. -/
def storeAgesWrong : ChangeSpec := { name := "storeAges", fn := fun _ => fun
  | [d1, d2] => { results := [.lit (.bool false)], args := [d1, d2] }
  | _ => none }
def StoreAgesWrongFalsely : Prop := storeAgesRow.holds Try.pinned (OpenSpec.ofChange storeAgesWrong)

/-- 'reredoslaw.StoreForgets': WHATEVER THE INPUT: true; the input reads as it did. -/
def storeForgetsSpec : ChangeSpec := { name := "storeForgets", fn := fun _ => fun
  | [d] => { results := [.lit (.bool true)], args := [d] }
  | _ => none }
def storeForgetsRow : OpenClaim := { program := "ytoalcmpjfnlkdaa", sum := "447a1608a4ccc0ecaccf80477c56613b01ffce4e63819668d2ed53c1a33d6ed3", func := "reredos/reredoslaw.StoreForgets", spec := "storeForgets", unfollowed := true, recurses := true, apart := false }
def StoreForgetsSaid : Prop := storeForgetsRow.holds Try.pinned (OpenSpec.ofChange storeForgetsSpec)

/-- ITS FALSE NEIGHBOUR: 'it returns false'. Refute it at one input. -/
def storeForgetsWrong : ChangeSpec := { name := "storeForgets", fn := fun _ => fun
  | [d] => { results := [.lit (.bool false)], args := [d] }
  | _ => none }
def StoreForgetsWrongFalsely : Prop := storeForgetsRow.holds Try.pinned (OpenSpec.ofChange storeForgetsWrong)

/-- 'reredoslaw.StoreStill': WHATEVER THE INPUT: true; the input reads as it did. -/
def storeStillSpec : ChangeSpec := { name := "storeStill", fn := fun _ => fun
  | [d1, d2, d3, d4] => { results := [.lit (.bool true)], args := [d1, d2, d3, d4] }
  | _ => none }
def storeStillRow : OpenClaim := { program := "ytoalcmpjfnlkdaa", sum := "447a1608a4ccc0ecaccf80477c56613b01ffce4e63819668d2ed53c1a33d6ed3", func := "reredos/reredoslaw.StoreStill", spec := "storeStill", unfollowed := true, recurses := true, apart := false }
def StoreStillSaid : Prop := storeStillRow.holds Try.pinned (OpenSpec.ofChange storeStillSpec)

/-- ITS FALSE NEIGHBOUR: 'it returns false'. Refute it at one input. -/
def storeStillWrong : ChangeSpec := { name := "storeStill", fn := fun _ => fun
  | [d1, d2, d3, d4] => { results := [.lit (.bool false)], args := [d1, d2, d3, d4] }
  | _ => none }
def StoreStillWrongFalsely : Prop := storeStillRow.holds Try.pinned (OpenSpec.ofChange storeStillWrong)

/-- 'reredoslaw.StorePeeks': WHATEVER THE INPUT: true; the input reads as it did. -/
def storePeeksSpec : ChangeSpec := { name := "storePeeks", fn := fun _ => fun
  | [d1, d2] => { results := [.lit (.bool true)], args := [d1, d2] }
  | _ => none }
def storePeeksRow : OpenClaim := { program := "ytoalcmpjfnlkdaa", sum := "447a1608a4ccc0ecaccf80477c56613b01ffce4e63819668d2ed53c1a33d6ed3", func := "reredos/reredoslaw.StorePeeks", spec := "storePeeks", unfollowed := true, recurses := true, apart := false }
def StorePeeksSaid : Prop := storePeeksRow.holds Try.pinned (OpenSpec.ofChange storePeeksSpec)

/-- ITS FALSE NEIGHBOUR: 'it returns false'. Refute it at one input. -/
def storePeeksWrong : ChangeSpec := { name := "storePeeks", fn := fun _ => fun
  | [d1, d2] => { results := [.lit (.bool false)], args := [d1, d2] }
  | _ => none }
def StorePeeksWrongFalsely : Prop := storePeeksRow.holds Try.pinned (OpenSpec.ofChange storePeeksWrong)

/-- 'reredoslaw.StoreReads': WHATEVER THE INPUT: true; the input reads as it did. -/
def storeReadsSpec : ChangeSpec := { name := "storeReads", fn := fun _ => fun
  | [d1, d2, d3] => { results := [.lit (.bool true)], args := [d1, d2, d3] }
  | _ => none }
def storeReadsRow : OpenClaim := { program := "ytoalcmpjfnlkdaa", sum := "447a1608a4ccc0ecaccf80477c56613b01ffce4e63819668d2ed53c1a33d6ed3", func := "reredos/reredoslaw.StoreReads", spec := "storeReads", unfollowed := true, recurses := true, apart := false }
def StoreReadsSaid : Prop := storeReadsRow.holds Try.pinned (OpenSpec.ofChange storeReadsSpec)

/-- ITS FALSE NEIGHBOUR: 'it returns false'. Refute it at one input. -/
def storeReadsWrong : ChangeSpec := { name := "storeReads", fn := fun _ => fun
  | [d1, d2, d3] => { results := [.lit (.bool false)], args := [d1, d2, d3] }
  | _ => none }
def StoreReadsWrongFalsely : Prop := storeReadsRow.holds Try.pinned (OpenSpec.ofChange storeReadsWrong)

/-- 'reredoslaw.StoreWrites': WHATEVER THE INPUT: true; the input reads as it did. -/
def storeWritesSpec : ChangeSpec := { name := "storeWrites", fn := fun _ => fun
  | [d1, d2, d3, d4, d5] => { results := [.lit (.bool true)], args := [d1, d2, d3, d4, d5] }
  | _ => none }
def storeWritesRow : OpenClaim := { program := "ytoalcmpjfnlkdaa", sum := "447a1608a4ccc0ecaccf80477c56613b01ffce4e63819668d2ed53c1a33d6ed3", func := "reredos/reredoslaw.StoreWrites", spec := "storeWrites", unfollowed := true, recurses := true, apart := false }
def StoreWritesSaid : Prop := storeWritesRow.holds Try.pinned (OpenSpec.ofChange storeWritesSpec)

/-- ITS FALSE NEIGHBOUR: 'it returns false'. Refute it at one input. -/
def storeWritesWrong : ChangeSpec := { name := "storeWrites", fn := fun _ => fun
  | [d1, d2, d3, d4, d5] => { results := [.lit (.bool false)], args := [d1, d2, d3, d4, d5] }
  | _ => none }
def StoreWritesWrongFalsely : Prop := storeWritesRow.holds Try.pinned (OpenSpec.ofChange storeWritesWrong)

/-- 'reredoslaw.StoreEnds': WHATEVER THE INPUT: true; the input reads as it did. -/
def storeEndsSpec : ChangeSpec := { name := "storeEnds", fn := fun _ => fun
  | [d1, d2, d3] => { results := [.lit (.bool true)], args := [d1, d2, d3] }
  | _ => none }
def storeEndsRow : OpenClaim := { program := "ytoalcmpjfnlkdaa", sum := "447a1608a4ccc0ecaccf80477c56613b01ffce4e63819668d2ed53c1a33d6ed3", func := "reredos/reredoslaw.StoreEnds", spec := "storeEnds", inPlace := ["slices.overlaps[reredos/api.Item]"], unfollowed := true, recurses := true, apart := false }
def StoreEndsSaid : Prop := storeEndsRow.holds Try.pinned (OpenSpec.ofChange storeEndsSpec)

/-- ITS FALSE NEIGHBOUR: 'it returns false'. Refute it at one input. -/
def storeEndsWrong : ChangeSpec := { name := "storeEnds", fn := fun _ => fun
  | [d1, d2, d3] => { results := [.lit (.bool false)], args := [d1, d2, d3] }
  | _ => none }
def StoreEndsWrongFalsely : Prop := storeEndsRow.holds Try.pinned (OpenSpec.ofChange storeEndsWrong)

/- THE SECOND FORM. 'bulk': how many values and letters a reading holds, each counted each time it is reached (what is shared counts as often as it is met; a slice's spare places count too). A statement '..UptoSaid' is the law's where the arguments, and the package variables that the reading takes, are together of bulk at most 1048576: NARROWER than '..Said'. Prove '..Said' where nothing that the law and all that it calls make is longer than what came in: it says more and counts as full. Else prove '..UptoSaid'. A law counts once. -/
mutual
def uptoBulk {H : Type} : DataW H → Nat
  | .lit (.string bytes) => bytes.length + 1
  | .lit _ => 1
  | .nil => 1
  | .ptr d => uptoBulk d + 1
  | .slice elems spare => uptoBulkAll elems + uptoBulkAll spare + 1
  | .agg parts => uptoBulkAll parts + 1
  | .iface _ d => uptoBulk d + 1
  | .map entries => uptoBulkEntries entries + 1
  | .held _ => 1
def uptoBulkAll {H : Type} : List (DataW H) → Nat
  | [] => 0
  | d :: r => uptoBulk d + uptoBulkAll r
def uptoBulkEntries {H : Type} : List (Lit × DataW H) → Nat
  | [] => 0
  | x :: r => uptoBulkEntry x + uptoBulkEntries r
def uptoBulkEntry {H : Type} : Lit × DataW H → Nat
  | (.string bytes, d) => bytes.length + uptoBulk d + 1
  | (_, d) => uptoBulk d + 1
 end
def uptoSmall : (H : Type) → List (DataW H) → Bool := fun _ ds => decide (uptoBulkAll ds ≤ 1048576)
def OpenSpec.upto (s : _root_.Go.ChangeSpec) : _root_.Go.OpenSpec := { _root_.Go.OpenSpec.ofChange s with cond := some uptoSmall }

/-- 'reredoslaw.StoreChecks', WHERE WHAT IT READS IS OF BULK AT MOST 1048576: true; the input reads as it did. -/
def storeChecksUptoRow : OpenClaim := { program := "ytoalcmpjfnlkdaa", sum := "447a1608a4ccc0ecaccf80477c56613b01ffce4e63819668d2ed53c1a33d6ed3", func := "reredos/reredoslaw.StoreChecks", spec := "storeChecks", unfollowed := true, recurses := true, apart := false, narrowed := true }
def StoreChecksUptoSaid : Prop := storeChecksUptoRow.holds Try.pinned (OpenSpec.upto storeChecksSpec)

/-- 'reredoslaw.StoreCounts', WHERE WHAT IT READS IS OF BULK AT MOST 1048576: true; the input reads as it did. -/
def storeCountsUptoRow : OpenClaim := { program := "ytoalcmpjfnlkdaa", sum := "447a1608a4ccc0ecaccf80477c56613b01ffce4e63819668d2ed53c1a33d6ed3", func := "reredos/reredoslaw.StoreCounts", spec := "storeCounts", unfollowed := true, recurses := true, apart := false, narrowed := true }
def StoreCountsUptoSaid : Prop := storeCountsUptoRow.holds Try.pinned (OpenSpec.upto storeCountsSpec)

/-- 'reredoslaw.StoreAges', WHERE WHAT IT READS IS OF BULK AT MOST 1048576: true; the input reads as it did. -/
def storeAgesUptoRow : OpenClaim := { program := "ytoalcmpjfnlkdaa", sum := "447a1608a4ccc0ecaccf80477c56613b01ffce4e63819668d2ed53c1a33d6ed3", func := "reredos/reredoslaw.StoreAges", spec := "storeAges", unfollowed := true, recurses := true, apart := false, narrowed := true }
def StoreAgesUptoSaid : Prop := storeAgesUptoRow.holds Try.pinned (OpenSpec.upto storeAgesSpec)

/-- 'reredoslaw.StoreForgets', WHERE WHAT IT READS IS OF BULK AT MOST 1048576: true; the input reads as it did. -/
def storeForgetsUptoRow : OpenClaim := { program := "ytoalcmpjfnlkdaa", sum := "447a1608a4ccc0ecaccf80477c56613b01ffce4e63819668d2ed53c1a33d6ed3", func := "reredos/reredoslaw.StoreForgets", spec := "storeForgets", unfollowed := true, recurses := true, apart := false, narrowed := true }
def StoreForgetsUptoSaid : Prop := storeForgetsUptoRow.holds Try.pinned (OpenSpec.upto storeForgetsSpec)

/-- 'reredoslaw.StoreStill', WHERE WHAT IT READS IS OF BULK AT MOST 1048576: true; the input reads as it did. -/
def storeStillUptoRow : OpenClaim := { program := "ytoalcmpjfnlkdaa", sum := "447a1608a4ccc0ecaccf80477c56613b01ffce4e63819668d2ed53c1a33d6ed3", func := "reredos/reredoslaw.StoreStill", spec := "storeStill", unfollowed := true, recurses := true, apart := false, narrowed := true }
def StoreStillUptoSaid : Prop := storeStillUptoRow.holds Try.pinned (OpenSpec.upto storeStillSpec)

/-- 'reredoslaw.StorePeeks', WHERE WHAT IT READS IS OF BULK AT MOST 1048576: true; the input reads as it did. -/
def storePeeksUptoRow : OpenClaim := { program := "ytoalcmpjfnlkdaa", sum := "447a1608a4ccc0ecaccf80477c56613b01ffce4e63819668d2ed53c1a33d6ed3", func := "reredos/reredoslaw.StorePeeks", spec := "storePeeks", unfollowed := true, recurses := true, apart := false, narrowed := true }
def StorePeeksUptoSaid : Prop := storePeeksUptoRow.holds Try.pinned (OpenSpec.upto storePeeksSpec)

/-- 'reredoslaw.StoreReads', WHERE WHAT IT READS IS OF BULK AT MOST 1048576: true; the input reads as it did. -/
def storeReadsUptoRow : OpenClaim := { program := "ytoalcmpjfnlkdaa", sum := "447a1608a4ccc0ecaccf80477c56613b01ffce4e63819668d2ed53c1a33d6ed3", func := "reredos/reredoslaw.StoreReads", spec := "storeReads", unfollowed := true, recurses := true, apart := false, narrowed := true }
def StoreReadsUptoSaid : Prop := storeReadsUptoRow.holds Try.pinned (OpenSpec.upto storeReadsSpec)

/-- 'reredoslaw.StoreWrites', WHERE WHAT IT READS IS OF BULK AT MOST 1048576: true; the input reads as it did. -/
def storeWritesUptoRow : OpenClaim := { program := "ytoalcmpjfnlkdaa", sum := "447a1608a4ccc0ecaccf80477c56613b01ffce4e63819668d2ed53c1a33d6ed3", func := "reredos/reredoslaw.StoreWrites", spec := "storeWrites", unfollowed := true, recurses := true, apart := false, narrowed := true }
def StoreWritesUptoSaid : Prop := storeWritesUptoRow.holds Try.pinned (OpenSpec.upto storeWritesSpec)

/-- 'reredoslaw.StoreEnds', WHERE WHAT IT READS IS OF BULK AT MOST 1048576: true; the input reads as it did. -/
def storeEndsUptoRow : OpenClaim := { program := "ytoalcmpjfnlkdaa", sum := "447a1608a4ccc0ecaccf80477c56613b01ffce4e63819668d2ed53c1a33d6ed3", func := "reredos/reredoslaw.StoreEnds", spec := "storeEnds", inPlace := ["slices.overlaps[reredos/api.Item]"], unfollowed := true, recurses := true, apart := false, narrowed := true }
def StoreEndsUptoSaid : Prop := storeEndsUptoRow.holds Try.pinned (OpenSpec.upto storeEndsSpec)

end Rows
end Go.Proofs.Ytoalcmpjfnlkdaa
