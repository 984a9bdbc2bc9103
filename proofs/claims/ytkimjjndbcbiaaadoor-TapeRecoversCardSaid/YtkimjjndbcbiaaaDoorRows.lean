/-
  NARROWER THAN 'FOR EVERY INPUT', by the rows' own cells (each row's printed sentence says how): NetChecks: laid · WireWrites: laid · WireSays: laid · NetSends: laid · NetTakes: laid · WireReads: laid · WireHears: laid · TapeAppends: laid · TapeRecovers: laid.
  DERIVED. THE GIVEN ROWS OF THIS SEAT. 9 by the template 'for every input the law returns true; each argument reads behind the call as it read before'; 0 by the template 'total and deterministic' (their statements: YtkimjjndbcbiaaaDoorTotals.lean).
  GIVEN WITH THE SEED: the statements are not yours to turn. If you find one false, say at which input.
  Laid BY PROGRAM, IN A SANDBOX (cutbox-rows.mjs): the forced cells as the released guide's own fill.sh prints them over the translation 6ba25d5e1d36dd2d… (all of the seat's roots in one cut). By AI agents, Wed Nov 11 2026. No macro, syntax, notation, axiom, sorry.
-/
import Derived.Test.YtkimjjndbcbiaaaDoorChecked
import GoSem.Claim
import GoSem.ClaimJoined
import GoSem.ClaimMapViews
import Derived.JoinedTies
import Derived.KernelRfl
namespace Go.Proofs.YtkimjjndbcbiaaaDoor
/- THE CELL 'sum', in the pinned program and in every row, IS THE sha256 OF THE DUMP (.gsa) THAT YtkimjjndbcbiaaaDoorProg.lean LOADS. Nothing in Lean hashes anything: it is a label: what it is worth is what the hold of that sum in a sandbox is worth. -/
noncomputable def Tryd.pinned : Pinned := { name := "ytkimjjndbcbiaaadoor", sum := "6ba25d5e1d36dd2d7341190a4b0a6726f44eba83706f3932414835c621a92933", checked := Tryd.checked }
namespace Rows
def none {H : Type} : Left H := { results := [], args := [] }

/- WHAT THE LISTED PACKAGE-LEVEL VARIABLES READ AS WHEN THE CALL BEGINS. Each datum BY PROGRAM (the guide's laid-datum.mjs) off the statement by which the dump's own 'gosem.cut.vars' lays the variable. In a bare row this is a premise. The card (YtkimjjndbcbiaaaDoorCards.lean) ties it to the program's text. -/
def laid_reredos_wire_messages {H : Type} : DataW H := .agg [.agg [.lit (.bool false), .lit (.bool false), .lit (.bool false), .lit (.bool false), .lit (.bool false), .lit (.bool false), .lit (.bool false), .lit (.bool false)], .agg [.lit (.bool true), .lit (.bool true), .lit (.bool false), .lit (.bool false), .lit (.bool true), .lit (.bool false), .lit (.bool false), .lit (.bool false)], .agg [.lit (.bool false), .lit (.bool true), .lit (.bool true), .lit (.bool false), .lit (.bool true), .lit (.bool false), .lit (.bool false), .lit (.bool false)], .agg [.lit (.bool true), .lit (.bool true), .lit (.bool false), .lit (.bool true), .lit (.bool false), .lit (.bool false), .lit (.bool false), .lit (.bool false)], .agg [.lit (.bool false), .lit (.bool false), .lit (.bool false), .lit (.bool false), .lit (.bool false), .lit (.bool true), .lit (.bool false), .lit (.bool false)], .agg [.lit (.bool true), .lit (.bool true), .lit (.bool true), .lit (.bool true), .lit (.bool true), .lit (.bool false), .lit (.bool true), .lit (.bool false)], .agg [.lit (.bool false), .lit (.bool true), .lit (.bool false), .lit (.bool false), .lit (.bool true), .lit (.bool false), .lit (.bool true), .lit (.bool false)], .agg [.lit (.bool true), .lit (.bool true), .lit (.bool false), .lit (.bool true), .lit (.bool false), .lit (.bool true), .lit (.bool false), .lit (.bool false)], .agg [.lit (.bool false), .lit (.bool false), .lit (.bool false), .lit (.bool false), .lit (.bool false), .lit (.bool false), .lit (.bool false), .lit (.bool false)], .agg [.lit (.bool false), .lit (.bool false), .lit (.bool false), .lit (.bool false), .lit (.bool false), .lit (.bool false), .lit (.bool false), .lit (.bool false)]]
def laid_reredos_wire_records {H : Type} : DataW H := .agg [.agg [.lit (.bool false), .lit (.bool false), .lit (.bool false), .lit (.bool false), .lit (.bool false), .lit (.bool false), .lit (.bool false), .lit (.bool false)], .agg [.lit (.bool false), .lit (.bool true), .lit (.bool true), .lit (.bool false), .lit (.bool true), .lit (.bool false), .lit (.bool false), .lit (.bool false)], .agg [.lit (.bool false), .lit (.bool false), .lit (.bool false), .lit (.bool false), .lit (.bool false), .lit (.bool true), .lit (.bool false), .lit (.bool false)], .agg [.lit (.bool false), .lit (.bool false), .lit (.bool false), .lit (.bool false), .lit (.bool false), .lit (.bool false), .lit (.bool false), .lit (.bool true)], .agg [.lit (.bool false), .lit (.bool false), .lit (.bool false), .lit (.bool false), .lit (.bool false), .lit (.bool false), .lit (.bool false), .lit (.bool false)], .agg [.lit (.bool false), .lit (.bool false), .lit (.bool false), .lit (.bool false), .lit (.bool false), .lit (.bool false), .lit (.bool false), .lit (.bool false)], .agg [.lit (.bool false), .lit (.bool false), .lit (.bool false), .lit (.bool false), .lit (.bool false), .lit (.bool true), .lit (.bool false), .lit (.bool false)]]

/-- 'reredoslaw.NetChecks': WHATEVER THE INPUT: true; the input reads as it did. -/
def netChecksSpec : ChangeSpec := { name := "netChecks", fn := fun _ => fun
  | [d1, d2] => { results := [.lit (.bool true)], args := [d1, d2] }
  | _ => none }
def netChecksRow : OpenClaim := { program := "ytkimjjndbcbiaaadoor", sum := "6ba25d5e1d36dd2d7341190a4b0a6726f44eba83706f3932414835c621a92933", func := "reredos/reredoslaw.NetChecks", spec := "netChecks", named := ["reredos/wire.messages"], apart := false, laid := [("reredos/wire.messages", laid_reredos_wire_messages)] }
def NetChecksSaid : Prop := netChecksRow.holds Tryd.pinned (OpenSpec.ofChange netChecksSpec)

/-- ITS FALSE NEIGHBOUR: 'it returns false'. Refute it at one input. -/
def netChecksWrong : ChangeSpec := { name := "netChecks", fn := fun _ => fun
  | [d1, d2] => { results := [.lit (.bool false)], args := [d1, d2] }
  | _ => none }
def NetChecksWrongFalsely : Prop := netChecksRow.holds Tryd.pinned (OpenSpec.ofChange netChecksWrong)

/-- 'reredoslaw.WireWrites': WHATEVER THE INPUT: true; the input reads as it did. -/
def wireWritesSpec : ChangeSpec := { name := "wireWrites", fn := fun _ => fun
  | [d1, d2] => { results := [.lit (.bool true)], args := [d1, d2] }
  | _ => none }
def wireWritesRow : OpenClaim := { program := "ytkimjjndbcbiaaadoor", sum := "6ba25d5e1d36dd2d7341190a4b0a6726f44eba83706f3932414835c621a92933", func := "reredos/reredoslaw.WireWrites", spec := "wireWrites", named := ["reredos/wire.records"], apart := false, laid := [("reredos/wire.records", laid_reredos_wire_records)] }
def WireWritesSaid : Prop := wireWritesRow.holds Tryd.pinned (OpenSpec.ofChange wireWritesSpec)

/-- ITS FALSE NEIGHBOUR: 'it returns false'. Refute it at one input. -/
def wireWritesWrong : ChangeSpec := { name := "wireWrites", fn := fun _ => fun
  | [d1, d2] => { results := [.lit (.bool false)], args := [d1, d2] }
  | _ => none }
def WireWritesWrongFalsely : Prop := wireWritesRow.holds Tryd.pinned (OpenSpec.ofChange wireWritesWrong)

/-- 'reredoslaw.WireSays': WHATEVER THE INPUT: true; the input reads as it did. -/
def wireSaysSpec : ChangeSpec := { name := "wireSays", fn := fun _ => fun
  | [d1, d2] => { results := [.lit (.bool true)], args := [d1, d2] }
  | _ => none }
def wireSaysRow : OpenClaim := { program := "ytkimjjndbcbiaaadoor", sum := "6ba25d5e1d36dd2d7341190a4b0a6726f44eba83706f3932414835c621a92933", func := "reredos/reredoslaw.WireSays", spec := "wireSays", named := ["reredos/wire.messages"], apart := false, laid := [("reredos/wire.messages", laid_reredos_wire_messages)] }
def WireSaysSaid : Prop := wireSaysRow.holds Tryd.pinned (OpenSpec.ofChange wireSaysSpec)

/-- ITS FALSE NEIGHBOUR: 'it returns false'. Refute it at one input. -/
def wireSaysWrong : ChangeSpec := { name := "wireSays", fn := fun _ => fun
  | [d1, d2] => { results := [.lit (.bool false)], args := [d1, d2] }
  | _ => none }
def WireSaysWrongFalsely : Prop := wireSaysRow.holds Tryd.pinned (OpenSpec.ofChange wireSaysWrong)

/-- 'reredoslaw.NetSends': WHATEVER THE INPUT: true; the input reads as it did. -/
def netSendsSpec : ChangeSpec := { name := "netSends", fn := fun _ => fun
  | [d1, d2, d3] => { results := [.lit (.bool true)], args := [d1, d2, d3] }
  | _ => none }
def netSendsRow : OpenClaim := { program := "ytkimjjndbcbiaaadoor", sum := "6ba25d5e1d36dd2d7341190a4b0a6726f44eba83706f3932414835c621a92933", func := "reredos/reredoslaw.NetSends", spec := "netSends", named := ["reredos/wire.messages"], apart := false, laid := [("reredos/wire.messages", laid_reredos_wire_messages)] }
def NetSendsSaid : Prop := netSendsRow.holds Tryd.pinned (OpenSpec.ofChange netSendsSpec)

/-- ITS FALSE NEIGHBOUR: 'it returns false'. Refute it at one input. -/
def netSendsWrong : ChangeSpec := { name := "netSends", fn := fun _ => fun
  | [d1, d2, d3] => { results := [.lit (.bool false)], args := [d1, d2, d3] }
  | _ => none }
def NetSendsWrongFalsely : Prop := netSendsRow.holds Tryd.pinned (OpenSpec.ofChange netSendsWrong)

/-- 'reredoslaw.NetTakes': WHATEVER THE INPUT: true; the input reads as it did. -/
def netTakesSpec : ChangeSpec := { name := "netTakes", fn := fun _ => fun
  | [d1, d2, d3, d4, d5, d6] => { results := [.lit (.bool true)], args := [d1, d2, d3, d4, d5, d6] }
  | _ => none }
def netTakesRow : OpenClaim := { program := "ytkimjjndbcbiaaadoor", sum := "6ba25d5e1d36dd2d7341190a4b0a6726f44eba83706f3932414835c621a92933", func := "reredos/reredoslaw.NetTakes", spec := "netTakes", named := ["reredos/wire.messages"], apart := false, laid := [("reredos/wire.messages", laid_reredos_wire_messages)] }
def NetTakesSaid : Prop := netTakesRow.holds Tryd.pinned (OpenSpec.ofChange netTakesSpec)

/-- ITS FALSE NEIGHBOUR: 'it returns false'. Refute it at one input. -/
def netTakesWrong : ChangeSpec := { name := "netTakes", fn := fun _ => fun
  | [d1, d2, d3, d4, d5, d6] => { results := [.lit (.bool false)], args := [d1, d2, d3, d4, d5, d6] }
  | _ => none }
def NetTakesWrongFalsely : Prop := netTakesRow.holds Tryd.pinned (OpenSpec.ofChange netTakesWrong)

/-- 'reredoslaw.WireReads': WHATEVER THE INPUT: true; the input reads as it did. -/
def wireReadsSpec : ChangeSpec := { name := "wireReads", fn := fun _ => fun
  | [d1, d2] => { results := [.lit (.bool true)], args := [d1, d2] }
  | _ => none }
def wireReadsRow : OpenClaim := { program := "ytkimjjndbcbiaaadoor", sum := "6ba25d5e1d36dd2d7341190a4b0a6726f44eba83706f3932414835c621a92933", func := "reredos/reredoslaw.WireReads", spec := "wireReads", named := ["reredos/wire.records"], apart := false, laid := [("reredos/wire.records", laid_reredos_wire_records)] }
def WireReadsSaid : Prop := wireReadsRow.holds Tryd.pinned (OpenSpec.ofChange wireReadsSpec)

/-- ITS FALSE NEIGHBOUR: 'it returns false'. Refute it at one input. -/
def wireReadsWrong : ChangeSpec := { name := "wireReads", fn := fun _ => fun
  | [d1, d2] => { results := [.lit (.bool false)], args := [d1, d2] }
  | _ => none }
def WireReadsWrongFalsely : Prop := wireReadsRow.holds Tryd.pinned (OpenSpec.ofChange wireReadsWrong)

/-- 'reredoslaw.WireHears': WHATEVER THE INPUT: true; the input reads as it did. -/
def wireHearsSpec : ChangeSpec := { name := "wireHears", fn := fun _ => fun
  | [d1, d2] => { results := [.lit (.bool true)], args := [d1, d2] }
  | _ => none }
def wireHearsRow : OpenClaim := { program := "ytkimjjndbcbiaaadoor", sum := "6ba25d5e1d36dd2d7341190a4b0a6726f44eba83706f3932414835c621a92933", func := "reredos/reredoslaw.WireHears", spec := "wireHears", named := ["reredos/wire.messages"], apart := false, laid := [("reredos/wire.messages", laid_reredos_wire_messages)] }
def WireHearsSaid : Prop := wireHearsRow.holds Tryd.pinned (OpenSpec.ofChange wireHearsSpec)

/-- ITS FALSE NEIGHBOUR: 'it returns false'. Refute it at one input. -/
def wireHearsWrong : ChangeSpec := { name := "wireHears", fn := fun _ => fun
  | [d1, d2] => { results := [.lit (.bool false)], args := [d1, d2] }
  | _ => none }
def WireHearsWrongFalsely : Prop := wireHearsRow.holds Tryd.pinned (OpenSpec.ofChange wireHearsWrong)

/-- 'reredoslaw.TapeAppends': WHATEVER THE INPUT: true; the input reads as it did. -/
def tapeAppendsSpec : ChangeSpec := { name := "tapeAppends", fn := fun _ => fun
  | [d1, d2, d3] => { results := [.lit (.bool true)], args := [d1, d2, d3] }
  | _ => none }
def tapeAppendsRow : OpenClaim := { program := "ytkimjjndbcbiaaadoor", sum := "6ba25d5e1d36dd2d7341190a4b0a6726f44eba83706f3932414835c621a92933", func := "reredos/reredoslaw.TapeAppends", spec := "tapeAppends", named := ["reredos/wire.records"], apart := false, laid := [("reredos/wire.records", laid_reredos_wire_records)] }
def TapeAppendsSaid : Prop := tapeAppendsRow.holds Tryd.pinned (OpenSpec.ofChange tapeAppendsSpec)

/-- ITS FALSE NEIGHBOUR: 'it returns false'. Refute it at one input. -/
def tapeAppendsWrong : ChangeSpec := { name := "tapeAppends", fn := fun _ => fun
  | [d1, d2, d3] => { results := [.lit (.bool false)], args := [d1, d2, d3] }
  | _ => none }
def TapeAppendsWrongFalsely : Prop := tapeAppendsRow.holds Tryd.pinned (OpenSpec.ofChange tapeAppendsWrong)

/-- 'reredoslaw.TapeRecovers': WHATEVER THE INPUT: true; the input reads as it did. -/
def tapeRecoversSpec : ChangeSpec := { name := "tapeRecovers", fn := fun _ => fun
  | [d1, d2] => { results := [.lit (.bool true)], args := [d1, d2] }
  | _ => none }
def tapeRecoversRow : OpenClaim := { program := "ytkimjjndbcbiaaadoor", sum := "6ba25d5e1d36dd2d7341190a4b0a6726f44eba83706f3932414835c621a92933", func := "reredos/reredoslaw.TapeRecovers", spec := "tapeRecovers", named := ["reredos/wire.records"], apart := false, laid := [("reredos/wire.records", laid_reredos_wire_records)] }
def TapeRecoversSaid : Prop := tapeRecoversRow.holds Tryd.pinned (OpenSpec.ofChange tapeRecoversSpec)

/-- ITS FALSE NEIGHBOUR: 'it returns false'. Refute it at one input. -/
def tapeRecoversWrong : ChangeSpec := { name := "tapeRecovers", fn := fun _ => fun
  | [d1, d2] => { results := [.lit (.bool false)], args := [d1, d2] }
  | _ => none }
def TapeRecoversWrongFalsely : Prop := tapeRecoversRow.holds Tryd.pinned (OpenSpec.ofChange tapeRecoversWrong)

/- THE SECOND FORM. 'bulk': how many values and letters a reading holds, each counted each time it is reached (what is shared counts as often as it is met; a slice's spare places count too). A statement '..UptoSaid' is the law's where the arguments, and the package variables that the reading takes, are together of bulk at most 1048576: NARROWER than '..Said'. Prove '..Said' where nothing that the law and all that it calls make is longer than what came in: it says more and counts as full. Else prove '..UptoSaid'. A law counts once. -/
mutual
def uptoBulk {H : Type} : DataW H → Nat
  | .lit (.string bytes) => bytes.length + 1
  | .lit _ => 1
  | .nil => 1
  | .ptr d => uptoBulk d + 1
  | .slice elems spare => uptoBulkAll elems + uptoBulkAll spare + 1
  | .agg parts => uptoBulkAll parts + 1
  | .iface _ d => uptoBulk d + 1
  | .map entries => uptoBulkEntries entries + 1
  | .held _ => 1
def uptoBulkAll {H : Type} : List (DataW H) → Nat
  | [] => 0
  | d :: r => uptoBulk d + uptoBulkAll r
def uptoBulkEntries {H : Type} : List (Lit × DataW H) → Nat
  | [] => 0
  | x :: r => uptoBulkEntry x + uptoBulkEntries r
def uptoBulkEntry {H : Type} : Lit × DataW H → Nat
  | (.string bytes, d) => bytes.length + uptoBulk d + 1
  | (_, d) => uptoBulk d + 1
 end
def uptoSmall : (H : Type) → List (DataW H) → Bool := fun _ ds => decide (uptoBulkAll ds ≤ 1048576)
def OpenSpec.upto (s : _root_.Go.ChangeSpec) : _root_.Go.OpenSpec := { _root_.Go.OpenSpec.ofChange s with cond := some uptoSmall }

/-- 'reredoslaw.NetChecks', WHERE WHAT IT READS IS OF BULK AT MOST 1048576: true; the input reads as it did. -/
def netChecksUptoRow : OpenClaim := { program := "ytkimjjndbcbiaaadoor", sum := "6ba25d5e1d36dd2d7341190a4b0a6726f44eba83706f3932414835c621a92933", func := "reredos/reredoslaw.NetChecks", spec := "netChecks", named := ["reredos/wire.messages"], apart := false, laid := [("reredos/wire.messages", laid_reredos_wire_messages)], narrowed := true }
def NetChecksUptoSaid : Prop := netChecksUptoRow.holds Tryd.pinned (OpenSpec.upto netChecksSpec)

/-- 'reredoslaw.WireWrites', WHERE WHAT IT READS IS OF BULK AT MOST 1048576: true; the input reads as it did. -/
def wireWritesUptoRow : OpenClaim := { program := "ytkimjjndbcbiaaadoor", sum := "6ba25d5e1d36dd2d7341190a4b0a6726f44eba83706f3932414835c621a92933", func := "reredos/reredoslaw.WireWrites", spec := "wireWrites", named := ["reredos/wire.records"], apart := false, laid := [("reredos/wire.records", laid_reredos_wire_records)], narrowed := true }
def WireWritesUptoSaid : Prop := wireWritesUptoRow.holds Tryd.pinned (OpenSpec.upto wireWritesSpec)

/-- 'reredoslaw.WireSays', WHERE WHAT IT READS IS OF BULK AT MOST 1048576: true; the input reads as it did. -/
def wireSaysUptoRow : OpenClaim := { program := "ytkimjjndbcbiaaadoor", sum := "6ba25d5e1d36dd2d7341190a4b0a6726f44eba83706f3932414835c621a92933", func := "reredos/reredoslaw.WireSays", spec := "wireSays", named := ["reredos/wire.messages"], apart := false, laid := [("reredos/wire.messages", laid_reredos_wire_messages)], narrowed := true }
def WireSaysUptoSaid : Prop := wireSaysUptoRow.holds Tryd.pinned (OpenSpec.upto wireSaysSpec)

/-- 'reredoslaw.NetSends', WHERE WHAT IT READS IS OF BULK AT MOST 1048576: true; the input reads as it did. -/
def netSendsUptoRow : OpenClaim := { program := "ytkimjjndbcbiaaadoor", sum := "6ba25d5e1d36dd2d7341190a4b0a6726f44eba83706f3932414835c621a92933", func := "reredos/reredoslaw.NetSends", spec := "netSends", named := ["reredos/wire.messages"], apart := false, laid := [("reredos/wire.messages", laid_reredos_wire_messages)], narrowed := true }
def NetSendsUptoSaid : Prop := netSendsUptoRow.holds Tryd.pinned (OpenSpec.upto netSendsSpec)

/-- 'reredoslaw.NetTakes', WHERE WHAT IT READS IS OF BULK AT MOST 1048576: true; the input reads as it did. -/
def netTakesUptoRow : OpenClaim := { program := "ytkimjjndbcbiaaadoor", sum := "6ba25d5e1d36dd2d7341190a4b0a6726f44eba83706f3932414835c621a92933", func := "reredos/reredoslaw.NetTakes", spec := "netTakes", named := ["reredos/wire.messages"], apart := false, laid := [("reredos/wire.messages", laid_reredos_wire_messages)], narrowed := true }
def NetTakesUptoSaid : Prop := netTakesUptoRow.holds Tryd.pinned (OpenSpec.upto netTakesSpec)

/-- 'reredoslaw.WireReads', WHERE WHAT IT READS IS OF BULK AT MOST 1048576: true; the input reads as it did. -/
def wireReadsUptoRow : OpenClaim := { program := "ytkimjjndbcbiaaadoor", sum := "6ba25d5e1d36dd2d7341190a4b0a6726f44eba83706f3932414835c621a92933", func := "reredos/reredoslaw.WireReads", spec := "wireReads", named := ["reredos/wire.records"], apart := false, laid := [("reredos/wire.records", laid_reredos_wire_records)], narrowed := true }
def WireReadsUptoSaid : Prop := wireReadsUptoRow.holds Tryd.pinned (OpenSpec.upto wireReadsSpec)

/-- 'reredoslaw.WireHears', WHERE WHAT IT READS IS OF BULK AT MOST 1048576: true; the input reads as it did. -/
def wireHearsUptoRow : OpenClaim := { program := "ytkimjjndbcbiaaadoor", sum := "6ba25d5e1d36dd2d7341190a4b0a6726f44eba83706f3932414835c621a92933", func := "reredos/reredoslaw.WireHears", spec := "wireHears", named := ["reredos/wire.messages"], apart := false, laid := [("reredos/wire.messages", laid_reredos_wire_messages)], narrowed := true }
def WireHearsUptoSaid : Prop := wireHearsUptoRow.holds Tryd.pinned (OpenSpec.upto wireHearsSpec)

/-- 'reredoslaw.TapeAppends', WHERE WHAT IT READS IS OF BULK AT MOST 1048576: true; the input reads as it did. -/
def tapeAppendsUptoRow : OpenClaim := { program := "ytkimjjndbcbiaaadoor", sum := "6ba25d5e1d36dd2d7341190a4b0a6726f44eba83706f3932414835c621a92933", func := "reredos/reredoslaw.TapeAppends", spec := "tapeAppends", named := ["reredos/wire.records"], apart := false, laid := [("reredos/wire.records", laid_reredos_wire_records)], narrowed := true }
def TapeAppendsUptoSaid : Prop := tapeAppendsUptoRow.holds Tryd.pinned (OpenSpec.upto tapeAppendsSpec)

/-- 'reredoslaw.TapeRecovers', WHERE WHAT IT READS IS OF BULK AT MOST 1048576: true; the input reads as it did. -/
def tapeRecoversUptoRow : OpenClaim := { program := "ytkimjjndbcbiaaadoor", sum := "6ba25d5e1d36dd2d7341190a4b0a6726f44eba83706f3932414835c621a92933", func := "reredos/reredoslaw.TapeRecovers", spec := "tapeRecovers", named := ["reredos/wire.records"], apart := false, laid := [("reredos/wire.records", laid_reredos_wire_records)], narrowed := true }
def TapeRecoversUptoSaid : Prop := tapeRecoversUptoRow.holds Tryd.pinned (OpenSpec.upto tapeRecoversSpec)

end Rows
end Go.Proofs.YtkimjjndbcbiaaaDoor
