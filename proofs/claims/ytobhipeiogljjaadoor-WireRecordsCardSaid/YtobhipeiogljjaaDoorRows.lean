/-
  NARROWER THAN 'FOR EVERY INPUT', by the rows' own cells (each row's printed sentence says how): WireMessages: laid · WireRecords: laid · NetChecks: laid · WireWrites: laid · WireSays: laid · NetSends: laid · NetTakes: laid · WireReads: laid · WireHears: laid · TapeAppends: laid · TapeRecovers: laid · LinesShows: laid · ConsoleShows: laid · RecoverRebuilds: laid · PartHears: laid · CoordHears: laid · ConsoleReads: laid · LinesReads: laid.
  DERIVED. THE GIVEN ROWS OF THIS SEAT. 18 by the template 'for every input the law returns true; each argument reads behind the call as it read before'; 0 by the template 'total and deterministic' (their statements: YtobhipeiogljjaaDoorTotals.lean).
  GIVEN WITH THE SEED: the statements are not yours to turn. If you find one false, say at which input.
  Laid BY PROGRAM, IN A SANDBOX (cutbox-rows.mjs): the forced cells as the released guide's own fill.sh prints them over the translation 918c597e09320d45… (all of the seat's roots in one cut). By AI agents, Wed Nov 11 2026. No macro, syntax, notation, axiom, sorry.
-/
import Derived.Test.YtobhipeiogljjaaDoorChecked
import GoSem.PinnedTables
import GoSem.Claim
import GoSem.ClaimJoined
import GoSem.ClaimMapViews
import Derived.JoinedTies
import Derived.KernelRfl
namespace Go.Proofs.YtobhipeiogljjaaDoor
/- THE CELL 'sum', in the pinned program and in every row, IS THE sha256 OF THE DUMP (.gsa) THAT YtobhipeiogljjaaDoorProg.lean LOADS. Nothing in Lean hashes anything: it is a label: what it is worth is what the hold of that sum in a sandbox is worth. -/
noncomputable def Tryd.pinned : Pinned := { name := "ytobhipeiogljjaadoor", sum := "918c597e09320d45709c03ff40b1e272b17f5b19ab0ced3c72fd2aa0564fac07", checked := Tryd.checked }
namespace Rows
def none {H : Type} : Left H := { results := [], args := [] }

/- WHAT THE LISTED PACKAGE-LEVEL VARIABLES READ AS WHEN THE CALL BEGINS. Each datum BY PROGRAM (the guide's laid-datum.mjs) off the statement by which the dump's own 'gosem.cut.vars' lays the variable. In a bare row this is a premise. The card (YtobhipeiogljjaaDoorCards.lean) ties it to the program's text. -/
def laid_reredos_wire_messages {H : Type} : DataW H := .agg [.agg [.lit (.bool false), .lit (.bool false), .lit (.bool false), .lit (.bool false), .lit (.bool false), .lit (.bool false), .lit (.bool false), .lit (.bool false)], .agg [.lit (.bool true), .lit (.bool true), .lit (.bool false), .lit (.bool false), .lit (.bool true), .lit (.bool false), .lit (.bool false), .lit (.bool false)], .agg [.lit (.bool false), .lit (.bool true), .lit (.bool true), .lit (.bool false), .lit (.bool true), .lit (.bool false), .lit (.bool false), .lit (.bool false)], .agg [.lit (.bool true), .lit (.bool true), .lit (.bool false), .lit (.bool true), .lit (.bool false), .lit (.bool false), .lit (.bool false), .lit (.bool false)], .agg [.lit (.bool false), .lit (.bool false), .lit (.bool false), .lit (.bool false), .lit (.bool false), .lit (.bool true), .lit (.bool false), .lit (.bool false)], .agg [.lit (.bool true), .lit (.bool true), .lit (.bool true), .lit (.bool true), .lit (.bool true), .lit (.bool false), .lit (.bool true), .lit (.bool false)], .agg [.lit (.bool false), .lit (.bool true), .lit (.bool false), .lit (.bool false), .lit (.bool true), .lit (.bool false), .lit (.bool true), .lit (.bool false)], .agg [.lit (.bool true), .lit (.bool true), .lit (.bool false), .lit (.bool true), .lit (.bool false), .lit (.bool true), .lit (.bool false), .lit (.bool false)], .agg [.lit (.bool false), .lit (.bool false), .lit (.bool false), .lit (.bool false), .lit (.bool false), .lit (.bool false), .lit (.bool false), .lit (.bool false)], .agg [.lit (.bool false), .lit (.bool false), .lit (.bool false), .lit (.bool false), .lit (.bool false), .lit (.bool false), .lit (.bool false), .lit (.bool false)]]
def laid_reredos_wire_records {H : Type} : DataW H := .agg [.agg [.lit (.bool false), .lit (.bool false), .lit (.bool false), .lit (.bool false), .lit (.bool false), .lit (.bool false), .lit (.bool false), .lit (.bool false)], .agg [.lit (.bool false), .lit (.bool true), .lit (.bool true), .lit (.bool false), .lit (.bool true), .lit (.bool false), .lit (.bool false), .lit (.bool false)], .agg [.lit (.bool false), .lit (.bool false), .lit (.bool false), .lit (.bool false), .lit (.bool false), .lit (.bool true), .lit (.bool false), .lit (.bool false)], .agg [.lit (.bool false), .lit (.bool false), .lit (.bool false), .lit (.bool false), .lit (.bool false), .lit (.bool false), .lit (.bool false), .lit (.bool true)], .agg [.lit (.bool false), .lit (.bool false), .lit (.bool false), .lit (.bool false), .lit (.bool false), .lit (.bool false), .lit (.bool false), .lit (.bool false)], .agg [.lit (.bool false), .lit (.bool false), .lit (.bool false), .lit (.bool false), .lit (.bool false), .lit (.bool false), .lit (.bool false), .lit (.bool false)], .agg [.lit (.bool false), .lit (.bool false), .lit (.bool false), .lit (.bool false), .lit (.bool false), .lit (.bool true), .lit (.bool false), .lit (.bool false)]]
def laid_math_bits_deBruijn32tab {H : Type} : DataW H := .agg [.lit (.int .u8 0), .lit (.int .u8 1), .lit (.int .u8 28), .lit (.int .u8 2), .lit (.int .u8 29), .lit (.int .u8 14), .lit (.int .u8 24), .lit (.int .u8 3), .lit (.int .u8 30), .lit (.int .u8 22), .lit (.int .u8 20), .lit (.int .u8 15), .lit (.int .u8 25), .lit (.int .u8 17), .lit (.int .u8 4), .lit (.int .u8 8), .lit (.int .u8 31), .lit (.int .u8 27), .lit (.int .u8 13), .lit (.int .u8 23), .lit (.int .u8 21), .lit (.int .u8 19), .lit (.int .u8 16), .lit (.int .u8 7), .lit (.int .u8 26), .lit (.int .u8 12), .lit (.int .u8 18), .lit (.int .u8 6), .lit (.int .u8 11), .lit (.int .u8 5), .lit (.int .u8 10), .lit (.int .u8 9)]
def laid_math_bits_deBruijn64tab {H : Type} : DataW H := .agg [.lit (.int .u8 0), .lit (.int .u8 1), .lit (.int .u8 56), .lit (.int .u8 2), .lit (.int .u8 57), .lit (.int .u8 49), .lit (.int .u8 28), .lit (.int .u8 3), .lit (.int .u8 61), .lit (.int .u8 58), .lit (.int .u8 42), .lit (.int .u8 50), .lit (.int .u8 38), .lit (.int .u8 29), .lit (.int .u8 17), .lit (.int .u8 4), .lit (.int .u8 62), .lit (.int .u8 47), .lit (.int .u8 59), .lit (.int .u8 36), .lit (.int .u8 45), .lit (.int .u8 43), .lit (.int .u8 51), .lit (.int .u8 22), .lit (.int .u8 53), .lit (.int .u8 39), .lit (.int .u8 33), .lit (.int .u8 30), .lit (.int .u8 24), .lit (.int .u8 18), .lit (.int .u8 12), .lit (.int .u8 5), .lit (.int .u8 63), .lit (.int .u8 55), .lit (.int .u8 48), .lit (.int .u8 27), .lit (.int .u8 60), .lit (.int .u8 41), .lit (.int .u8 37), .lit (.int .u8 16), .lit (.int .u8 46), .lit (.int .u8 35), .lit (.int .u8 44), .lit (.int .u8 21), .lit (.int .u8 52), .lit (.int .u8 32), .lit (.int .u8 23), .lit (.int .u8 11), .lit (.int .u8 54), .lit (.int .u8 26), .lit (.int .u8 40), .lit (.int .u8 15), .lit (.int .u8 34), .lit (.int .u8 20), .lit (.int .u8 31), .lit (.int .u8 10), .lit (.int .u8 25), .lit (.int .u8 14), .lit (.int .u8 19), .lit (.int .u8 9), .lit (.int .u8 13), .lit (.int .u8 8), .lit (.int .u8 7), .lit (.int .u8 6)]
def laid_internal_strconv_uint64pow10 {H : Type} : DataW H := .agg [.lit (.int .u64 1), .lit (.int .u64 10), .lit (.int .u64 100), .lit (.int .u64 1000), .lit (.int .u64 10000), .lit (.int .u64 100000), .lit (.int .u64 1000000), .lit (.int .u64 10000000), .lit (.int .u64 100000000), .lit (.int .u64 1000000000), .lit (.int .u64 10000000000), .lit (.int .u64 100000000000), .lit (.int .u64 1000000000000), .lit (.int .u64 10000000000000), .lit (.int .u64 100000000000000), .lit (.int .u64 1000000000000000), .lit (.int .u64 10000000000000000), .lit (.int .u64 100000000000000000), .lit (.int .u64 1000000000000000000), .lit (.int .u64 10000000000000000000)]
def laid_reredos_lines_words {H : Type} : DataW H := .agg [.lit (.string []), .lit (.string [97, 115, 107]), .lit (.string [100, 101, 108, 105, 118, 101, 114]), .lit (.string [100, 114, 111, 112]), .lit (.string [99, 111, 112, 121]), .lit (.string [116, 105, 99, 107]), .lit (.string [99, 114, 97, 115, 104]), .lit (.string [115, 116, 97, 114, 116]), .lit (.string [116, 121, 112, 101])]
def laid_reredos_lines_calls {H : Type} : DataW H := .agg [.lit (.string []), .lit (.string [98, 101, 103, 105, 110]), .lit (.string [103, 101, 116]), .lit (.string [112, 117, 116]), .lit (.string [99, 111, 109, 109, 105, 116]), .lit (.string [114, 111, 108, 108, 98, 97, 99, 107])]
def laid_unicode_utf8_acceptRanges {H : Type} : DataW H := .agg [.agg [.lit (.int .u8 128), .lit (.int .u8 191)], .agg [.lit (.int .u8 160), .lit (.int .u8 191)], .agg [.lit (.int .u8 128), .lit (.int .u8 159)], .agg [.lit (.int .u8 144), .lit (.int .u8 191)], .agg [.lit (.int .u8 128), .lit (.int .u8 143)], .agg [.lit (.int .u8 0), .lit (.int .u8 0)], .agg [.lit (.int .u8 0), .lit (.int .u8 0)], .agg [.lit (.int .u8 0), .lit (.int .u8 0)], .agg [.lit (.int .u8 0), .lit (.int .u8 0)], .agg [.lit (.int .u8 0), .lit (.int .u8 0)], .agg [.lit (.int .u8 0), .lit (.int .u8 0)], .agg [.lit (.int .u8 0), .lit (.int .u8 0)], .agg [.lit (.int .u8 0), .lit (.int .u8 0)], .agg [.lit (.int .u8 0), .lit (.int .u8 0)], .agg [.lit (.int .u8 0), .lit (.int .u8 0)], .agg [.lit (.int .u8 0), .lit (.int .u8 0)]]
def laid_strconv_ErrRange {H : Type} : DataW H := .iface "*errors.errorString" (.ptr (.agg [.lit (.string [118, 97, 108, 117, 101, 32, 111, 117, 116, 32, 111, 102, 32, 114, 97, 110, 103, 101])]))
def laid_strconv_ErrSyntax {H : Type} : DataW H := .iface "*errors.errorString" (.ptr (.agg [.lit (.string [105, 110, 118, 97, 108, 105, 100, 32, 115, 121, 110, 116, 97, 120])]))
/-- One of Go's own tables, pinned by name: the form's constant. -/
def laid_unicode_utf8_first : DataW Unit := Go.Pinned.utf8First

/-- 'reredoslaw.WireMessages': WHATEVER THE INPUT: true; the input reads as it did. -/
def wireMessagesSpec : ChangeSpec := { name := "wireMessages", fn := fun _ => fun
  | [d1, d2] => { results := [.lit (.bool true)], args := [d1, d2] }
  | _ => none }
def wireMessagesRow : OpenClaim := { program := "ytobhipeiogljjaadoor", sum := "918c597e09320d45709c03ff40b1e272b17f5b19ab0ced3c72fd2aa0564fac07", func := "reredos/reredoslaw.WireMessages", spec := "wireMessages", named := ["reredos/wire.messages"], apart := false, laid := [("reredos/wire.messages", laid_reredos_wire_messages)] }
def WireMessagesSaid : Prop := wireMessagesRow.holds Tryd.pinned (OpenSpec.ofChange wireMessagesSpec)

/-- ITS FALSE NEIGHBOUR: 'it returns false'. Refute it at one input. -/
def wireMessagesWrong : ChangeSpec := { name := "wireMessages", fn := fun _ => fun
  | [d1, d2] => { results := [.lit (.bool false)], args := [d1, d2] }
  | _ => none }
def WireMessagesWrongFalsely : Prop := wireMessagesRow.holds Tryd.pinned (OpenSpec.ofChange wireMessagesWrong)

/-- 'reredoslaw.WireRecords': WHATEVER THE INPUT: true; the input reads as it did. -/
def wireRecordsSpec : ChangeSpec := { name := "wireRecords", fn := fun _ => fun
  | [d1, d2] => { results := [.lit (.bool true)], args := [d1, d2] }
  | _ => none }
def wireRecordsRow : OpenClaim := { program := "ytobhipeiogljjaadoor", sum := "918c597e09320d45709c03ff40b1e272b17f5b19ab0ced3c72fd2aa0564fac07", func := "reredos/reredoslaw.WireRecords", spec := "wireRecords", named := ["reredos/wire.records"], apart := false, laid := [("reredos/wire.records", laid_reredos_wire_records)] }
def WireRecordsSaid : Prop := wireRecordsRow.holds Tryd.pinned (OpenSpec.ofChange wireRecordsSpec)

/-- ITS FALSE NEIGHBOUR: 'it returns false'. Refute it at one input. -/
def wireRecordsWrong : ChangeSpec := { name := "wireRecords", fn := fun _ => fun
  | [d1, d2] => { results := [.lit (.bool false)], args := [d1, d2] }
  | _ => none }
def WireRecordsWrongFalsely : Prop := wireRecordsRow.holds Tryd.pinned (OpenSpec.ofChange wireRecordsWrong)

/-- 'reredoslaw.NetChecks': WHATEVER THE INPUT: true; the input reads as it did. -/
def netChecksSpec : ChangeSpec := { name := "netChecks", fn := fun _ => fun
  | [d1, d2] => { results := [.lit (.bool true)], args := [d1, d2] }
  | _ => none }
def netChecksRow : OpenClaim := { program := "ytobhipeiogljjaadoor", sum := "918c597e09320d45709c03ff40b1e272b17f5b19ab0ced3c72fd2aa0564fac07", func := "reredos/reredoslaw.NetChecks", spec := "netChecks", named := ["reredos/wire.messages"], apart := false, laid := [("reredos/wire.messages", laid_reredos_wire_messages)] }
def NetChecksSaid : Prop := netChecksRow.holds Tryd.pinned (OpenSpec.ofChange netChecksSpec)

/-- ITS FALSE NEIGHBOUR: 'it returns false'. Refute it at one input. -/
def netChecksWrong : ChangeSpec := { name := "netChecks", fn := fun _ => fun
  | [d1, d2] => { results := [.lit (.bool false)], args := [d1, d2] }
  | _ => none }
def NetChecksWrongFalsely : Prop := netChecksRow.holds Tryd.pinned (OpenSpec.ofChange netChecksWrong)

/-- 'reredoslaw.WireWrites': WHATEVER THE INPUT: true; the input reads as it did. -/
def wireWritesSpec : ChangeSpec := { name := "wireWrites", fn := fun _ => fun
  | [d1, d2] => { results := [.lit (.bool true)], args := [d1, d2] }
  | _ => none }
def wireWritesRow : OpenClaim := { program := "ytobhipeiogljjaadoor", sum := "918c597e09320d45709c03ff40b1e272b17f5b19ab0ced3c72fd2aa0564fac07", func := "reredos/reredoslaw.WireWrites", spec := "wireWrites", named := ["reredos/wire.records"], apart := false, laid := [("reredos/wire.records", laid_reredos_wire_records)] }
def WireWritesSaid : Prop := wireWritesRow.holds Tryd.pinned (OpenSpec.ofChange wireWritesSpec)

/-- ITS FALSE NEIGHBOUR: 'it returns false'. Refute it at one input. -/
def wireWritesWrong : ChangeSpec := { name := "wireWrites", fn := fun _ => fun
  | [d1, d2] => { results := [.lit (.bool false)], args := [d1, d2] }
  | _ => none }
def WireWritesWrongFalsely : Prop := wireWritesRow.holds Tryd.pinned (OpenSpec.ofChange wireWritesWrong)

/-- 'reredoslaw.WireSays': WHATEVER THE INPUT: true; the input reads as it did. -/
def wireSaysSpec : ChangeSpec := { name := "wireSays", fn := fun _ => fun
  | [d1, d2] => { results := [.lit (.bool true)], args := [d1, d2] }
  | _ => none }
def wireSaysRow : OpenClaim := { program := "ytobhipeiogljjaadoor", sum := "918c597e09320d45709c03ff40b1e272b17f5b19ab0ced3c72fd2aa0564fac07", func := "reredos/reredoslaw.WireSays", spec := "wireSays", named := ["reredos/wire.messages"], apart := false, laid := [("reredos/wire.messages", laid_reredos_wire_messages)] }
def WireSaysSaid : Prop := wireSaysRow.holds Tryd.pinned (OpenSpec.ofChange wireSaysSpec)

/-- ITS FALSE NEIGHBOUR: 'it returns false'. Refute it at one input. -/
def wireSaysWrong : ChangeSpec := { name := "wireSays", fn := fun _ => fun
  | [d1, d2] => { results := [.lit (.bool false)], args := [d1, d2] }
  | _ => none }
def WireSaysWrongFalsely : Prop := wireSaysRow.holds Tryd.pinned (OpenSpec.ofChange wireSaysWrong)

/-- 'reredoslaw.NetSends': WHATEVER THE INPUT: true; the input reads as it did. -/
def netSendsSpec : ChangeSpec := { name := "netSends", fn := fun _ => fun
  | [d1, d2, d3] => { results := [.lit (.bool true)], args := [d1, d2, d3] }
  | _ => none }
def netSendsRow : OpenClaim := { program := "ytobhipeiogljjaadoor", sum := "918c597e09320d45709c03ff40b1e272b17f5b19ab0ced3c72fd2aa0564fac07", func := "reredos/reredoslaw.NetSends", spec := "netSends", named := ["reredos/wire.messages"], apart := false, laid := [("reredos/wire.messages", laid_reredos_wire_messages)] }
def NetSendsSaid : Prop := netSendsRow.holds Tryd.pinned (OpenSpec.ofChange netSendsSpec)

/-- ITS FALSE NEIGHBOUR: 'it returns false'. Refute it at one input. -/
def netSendsWrong : ChangeSpec := { name := "netSends", fn := fun _ => fun
  | [d1, d2, d3] => { results := [.lit (.bool false)], args := [d1, d2, d3] }
  | _ => none }
def NetSendsWrongFalsely : Prop := netSendsRow.holds Tryd.pinned (OpenSpec.ofChange netSendsWrong)

/-- 'reredoslaw.NetTakes': WHATEVER THE INPUT: true; the input reads as it did. -/
def netTakesSpec : ChangeSpec := { name := "netTakes", fn := fun _ => fun
  | [d1, d2, d3, d4, d5, d6] => { results := [.lit (.bool true)], args := [d1, d2, d3, d4, d5, d6] }
  | _ => none }
def netTakesRow : OpenClaim := { program := "ytobhipeiogljjaadoor", sum := "918c597e09320d45709c03ff40b1e272b17f5b19ab0ced3c72fd2aa0564fac07", func := "reredos/reredoslaw.NetTakes", spec := "netTakes", named := ["reredos/wire.messages"], apart := false, laid := [("reredos/wire.messages", laid_reredos_wire_messages)] }
def NetTakesSaid : Prop := netTakesRow.holds Tryd.pinned (OpenSpec.ofChange netTakesSpec)

/-- ITS FALSE NEIGHBOUR: 'it returns false'. Refute it at one input. -/
def netTakesWrong : ChangeSpec := { name := "netTakes", fn := fun _ => fun
  | [d1, d2, d3, d4, d5, d6] => { results := [.lit (.bool false)], args := [d1, d2, d3, d4, d5, d6] }
  | _ => none }
def NetTakesWrongFalsely : Prop := netTakesRow.holds Tryd.pinned (OpenSpec.ofChange netTakesWrong)

/-- 'reredoslaw.WireReads': WHATEVER THE INPUT: true; the input reads as it did. -/
def wireReadsSpec : ChangeSpec := { name := "wireReads", fn := fun _ => fun
  | [d1, d2] => { results := [.lit (.bool true)], args := [d1, d2] }
  | _ => none }
def wireReadsRow : OpenClaim := { program := "ytobhipeiogljjaadoor", sum := "918c597e09320d45709c03ff40b1e272b17f5b19ab0ced3c72fd2aa0564fac07", func := "reredos/reredoslaw.WireReads", spec := "wireReads", named := ["reredos/wire.records"], apart := false, laid := [("reredos/wire.records", laid_reredos_wire_records)] }
def WireReadsSaid : Prop := wireReadsRow.holds Tryd.pinned (OpenSpec.ofChange wireReadsSpec)

/-- ITS FALSE NEIGHBOUR: 'it returns false'. Refute it at one input. -/
def wireReadsWrong : ChangeSpec := { name := "wireReads", fn := fun _ => fun
  | [d1, d2] => { results := [.lit (.bool false)], args := [d1, d2] }
  | _ => none }
def WireReadsWrongFalsely : Prop := wireReadsRow.holds Tryd.pinned (OpenSpec.ofChange wireReadsWrong)

/-- 'reredoslaw.WireHears': WHATEVER THE INPUT: true; the input reads as it did. -/
def wireHearsSpec : ChangeSpec := { name := "wireHears", fn := fun _ => fun
  | [d1, d2] => { results := [.lit (.bool true)], args := [d1, d2] }
  | _ => none }
def wireHearsRow : OpenClaim := { program := "ytobhipeiogljjaadoor", sum := "918c597e09320d45709c03ff40b1e272b17f5b19ab0ced3c72fd2aa0564fac07", func := "reredos/reredoslaw.WireHears", spec := "wireHears", named := ["reredos/wire.messages"], apart := false, laid := [("reredos/wire.messages", laid_reredos_wire_messages)] }
def WireHearsSaid : Prop := wireHearsRow.holds Tryd.pinned (OpenSpec.ofChange wireHearsSpec)

/-- ITS FALSE NEIGHBOUR: 'it returns false'. Refute it at one input. -/
def wireHearsWrong : ChangeSpec := { name := "wireHears", fn := fun _ => fun
  | [d1, d2] => { results := [.lit (.bool false)], args := [d1, d2] }
  | _ => none }
def WireHearsWrongFalsely : Prop := wireHearsRow.holds Tryd.pinned (OpenSpec.ofChange wireHearsWrong)

/-- 'reredoslaw.TapeAppends': WHATEVER THE INPUT: true; the input reads as it did. -/
def tapeAppendsSpec : ChangeSpec := { name := "tapeAppends", fn := fun _ => fun
  | [d1, d2, d3] => { results := [.lit (.bool true)], args := [d1, d2, d3] }
  | _ => none }
def tapeAppendsRow : OpenClaim := { program := "ytobhipeiogljjaadoor", sum := "918c597e09320d45709c03ff40b1e272b17f5b19ab0ced3c72fd2aa0564fac07", func := "reredos/reredoslaw.TapeAppends", spec := "tapeAppends", named := ["reredos/wire.records"], apart := false, laid := [("reredos/wire.records", laid_reredos_wire_records)] }
def TapeAppendsSaid : Prop := tapeAppendsRow.holds Tryd.pinned (OpenSpec.ofChange tapeAppendsSpec)

/-- ITS FALSE NEIGHBOUR: 'it returns false'. Refute it at one input. -/
def tapeAppendsWrong : ChangeSpec := { name := "tapeAppends", fn := fun _ => fun
  | [d1, d2, d3] => { results := [.lit (.bool false)], args := [d1, d2, d3] }
  | _ => none }
def TapeAppendsWrongFalsely : Prop := tapeAppendsRow.holds Tryd.pinned (OpenSpec.ofChange tapeAppendsWrong)

/-- 'reredoslaw.TapeRecovers': WHATEVER THE INPUT: true; the input reads as it did. -/
def tapeRecoversSpec : ChangeSpec := { name := "tapeRecovers", fn := fun _ => fun
  | [d1, d2] => { results := [.lit (.bool true)], args := [d1, d2] }
  | _ => none }
def tapeRecoversRow : OpenClaim := { program := "ytobhipeiogljjaadoor", sum := "918c597e09320d45709c03ff40b1e272b17f5b19ab0ced3c72fd2aa0564fac07", func := "reredos/reredoslaw.TapeRecovers", spec := "tapeRecovers", named := ["reredos/wire.records"], apart := false, laid := [("reredos/wire.records", laid_reredos_wire_records)] }
def TapeRecoversSaid : Prop := tapeRecoversRow.holds Tryd.pinned (OpenSpec.ofChange tapeRecoversSpec)

/-- ITS FALSE NEIGHBOUR: 'it returns false'. Refute it at one input. -/
def tapeRecoversWrong : ChangeSpec := { name := "tapeRecovers", fn := fun _ => fun
  | [d1, d2] => { results := [.lit (.bool false)], args := [d1, d2] }
  | _ => none }
def TapeRecoversWrongFalsely : Prop := tapeRecoversRow.holds Tryd.pinned (OpenSpec.ofChange tapeRecoversWrong)

/-- 'reredoslaw.LinesShows': WHATEVER THE INPUT: true; the input reads as it did. -/
def linesShowsSpec : ChangeSpec := { name := "linesShows", fn := fun _ => fun
  | [d1, d2] => { results := [.lit (.bool true)], args := [d1, d2] }
  | _ => none }
def linesShowsRow : OpenClaim := { program := "ytobhipeiogljjaadoor", sum := "918c597e09320d45709c03ff40b1e272b17f5b19ab0ced3c72fd2aa0564fac07", func := "reredos/reredoslaw.LinesShows", spec := "linesShows", inPlace := ["internal/abi.NoEscape"], unfollowed := true, recurses := true, named := ["reredos/lines.words", "internal/strconv.uint64pow10", "math/bits.deBruijn32tab", "math/bits.deBruijn64tab", "reredos/lines.calls"], apart := false, laid := [("math/bits.deBruijn32tab", laid_math_bits_deBruijn32tab), ("math/bits.deBruijn64tab", laid_math_bits_deBruijn64tab), ("internal/strconv.uint64pow10", laid_internal_strconv_uint64pow10), ("reredos/lines.words", laid_reredos_lines_words), ("reredos/lines.calls", laid_reredos_lines_calls)] }
def LinesShowsSaid : Prop := linesShowsRow.holds Tryd.pinned (OpenSpec.ofChange linesShowsSpec)

/-- ITS FALSE NEIGHBOUR: 'it returns false'. Refute it at one input. -/
def linesShowsWrong : ChangeSpec := { name := "linesShows", fn := fun _ => fun
  | [d1, d2] => { results := [.lit (.bool false)], args := [d1, d2] }
  | _ => none }
def LinesShowsWrongFalsely : Prop := linesShowsRow.holds Tryd.pinned (OpenSpec.ofChange linesShowsWrong)

/-- 'reredoslaw.ConsoleShows': WHATEVER THE INPUT: true; the input reads as it did. -/
def consoleShowsSpec : ChangeSpec := { name := "consoleShows", fn := fun _ => fun
  | [d1, d2, d3, d4, d5] => { results := [.lit (.bool true)], args := [d1, d2, d3, d4, d5] }
  | _ => none }
def consoleShowsRow : OpenClaim := { program := "ytobhipeiogljjaadoor", sum := "918c597e09320d45709c03ff40b1e272b17f5b19ab0ced3c72fd2aa0564fac07", func := "reredos/reredoslaw.ConsoleShows", spec := "consoleShows", inPlace := ["internal/abi.NoEscape"], unfollowed := true, recurses := true, named := ["internal/strconv.uint64pow10", "math/bits.deBruijn32tab", "math/bits.deBruijn64tab"], apart := false, laid := [("math/bits.deBruijn32tab", laid_math_bits_deBruijn32tab), ("math/bits.deBruijn64tab", laid_math_bits_deBruijn64tab), ("internal/strconv.uint64pow10", laid_internal_strconv_uint64pow10)] }
def ConsoleShowsSaid : Prop := consoleShowsRow.holds Tryd.pinned (OpenSpec.ofChange consoleShowsSpec)

/-- ITS FALSE NEIGHBOUR: 'it returns false'. Refute it at one input. -/
def consoleShowsWrong : ChangeSpec := { name := "consoleShows", fn := fun _ => fun
  | [d1, d2, d3, d4, d5] => { results := [.lit (.bool false)], args := [d1, d2, d3, d4, d5] }
  | _ => none }
def ConsoleShowsWrongFalsely : Prop := consoleShowsRow.holds Tryd.pinned (OpenSpec.ofChange consoleShowsWrong)

/-- 'reredoslaw.RecoverRebuilds': WHATEVER THE INPUT: true; the input reads as it did. -/
def recoverRebuildsSpec : ChangeSpec := { name := "recoverRebuilds", fn := fun _ => fun
  | [d1, d2, d3] => { results := [.lit (.bool true)], args := [d1, d2, d3] }
  | _ => none }
def recoverRebuildsRow : OpenClaim := { program := "ytobhipeiogljjaadoor", sum := "918c597e09320d45709c03ff40b1e272b17f5b19ab0ced3c72fd2aa0564fac07", func := "reredos/reredoslaw.RecoverRebuilds", spec := "recoverRebuilds", inPlace := ["slices.overlaps[reredos/api.Item]", "slices.overlaps[reredos/api.Job]"], unfollowed := true, recurses := true, named := ["reredos/wire.records"], apart := false, laid := [("reredos/wire.records", laid_reredos_wire_records)] }
def RecoverRebuildsSaid : Prop := recoverRebuildsRow.holds Tryd.pinned (OpenSpec.ofChange recoverRebuildsSpec)

/-- ITS FALSE NEIGHBOUR: 'it returns false'. Refute it at one input. -/
def recoverRebuildsWrong : ChangeSpec := { name := "recoverRebuilds", fn := fun _ => fun
  | [d1, d2, d3] => { results := [.lit (.bool false)], args := [d1, d2, d3] }
  | _ => none }
def RecoverRebuildsWrongFalsely : Prop := recoverRebuildsRow.holds Tryd.pinned (OpenSpec.ofChange recoverRebuildsWrong)

/-- 'reredoslaw.PartHears': WHATEVER THE INPUT: true; the input reads as it did. -/
def partHearsSpec : ChangeSpec := { name := "partHears", fn := fun _ => fun
  | [d1, d2, d3, d4, d5, d6, d7] => { results := [.lit (.bool true)], args := [d1, d2, d3, d4, d5, d6, d7] }
  | _ => none }
def partHearsRow : OpenClaim := { program := "ytobhipeiogljjaadoor", sum := "918c597e09320d45709c03ff40b1e272b17f5b19ab0ced3c72fd2aa0564fac07", func := "reredos/reredoslaw.PartHears", spec := "partHears", inPlace := ["slices.overlaps[reredos/api.Item]"], unfollowed := true, recurses := true, named := ["reredos/wire.messages"], apart := false, laid := [("reredos/wire.messages", laid_reredos_wire_messages)] }
def PartHearsSaid : Prop := partHearsRow.holds Tryd.pinned (OpenSpec.ofChange partHearsSpec)

/-- ITS FALSE NEIGHBOUR: 'it returns false'. Refute it at one input. -/
def partHearsWrong : ChangeSpec := { name := "partHears", fn := fun _ => fun
  | [d1, d2, d3, d4, d5, d6, d7] => { results := [.lit (.bool false)], args := [d1, d2, d3, d4, d5, d6, d7] }
  | _ => none }
def PartHearsWrongFalsely : Prop := partHearsRow.holds Tryd.pinned (OpenSpec.ofChange partHearsWrong)

/-- 'reredoslaw.CoordHears': WHATEVER THE INPUT: true; the input reads as it did. -/
def coordHearsSpec : ChangeSpec := { name := "coordHears", fn := fun _ => fun
  | [d1, d2, d3, d4, d5] => { results := [.lit (.bool true)], args := [d1, d2, d3, d4, d5] }
  | _ => none }
def coordHearsRow : OpenClaim := { program := "ytobhipeiogljjaadoor", sum := "918c597e09320d45709c03ff40b1e272b17f5b19ab0ced3c72fd2aa0564fac07", func := "reredos/reredoslaw.CoordHears", spec := "coordHears", unfollowed := true, recurses := true, named := ["reredos/wire.messages"], apart := false, laid := [("reredos/wire.messages", laid_reredos_wire_messages)] }
def CoordHearsSaid : Prop := coordHearsRow.holds Tryd.pinned (OpenSpec.ofChange coordHearsSpec)

/-- ITS FALSE NEIGHBOUR: 'it returns false'. Refute it at one input. -/
def coordHearsWrong : ChangeSpec := { name := "coordHears", fn := fun _ => fun
  | [d1, d2, d3, d4, d5] => { results := [.lit (.bool false)], args := [d1, d2, d3, d4, d5] }
  | _ => none }
def CoordHearsWrongFalsely : Prop := coordHearsRow.holds Tryd.pinned (OpenSpec.ofChange coordHearsWrong)

/-- 'reredoslaw.ConsoleReads': WHATEVER THE INPUT: true; the input reads as it did. -/
def consoleReadsSpec : ChangeSpec := { name := "consoleReads", fn := fun _ => fun
  | [d] => { results := [.lit (.bool true)], args := [d] }
  | _ => none }
def consoleReadsRow : OpenClaim := { program := "ytobhipeiogljjaadoor", sum := "918c597e09320d45709c03ff40b1e272b17f5b19ab0ced3c72fd2aa0564fac07", func := "reredos/reredoslaw.ConsoleReads", spec := "consoleReads", inPlace := ["internal/bytealg.CountString", "internal/bytealg.IndexByteString", "internal/bytealg.IndexString"], recurses := true, named := ["unicode/utf8.first", "unicode/utf8.acceptRanges", "internal/bytealg.MaxLen", "strconv.ErrSyntax", "strconv.ErrRange", "internal/strconv.uint64pow10", "math/bits.deBruijn32tab", "math/bits.deBruijn64tab"], apart := false, laid := [("math/bits.deBruijn32tab", laid_math_bits_deBruijn32tab), ("math/bits.deBruijn64tab", laid_math_bits_deBruijn64tab), ("internal/strconv.uint64pow10", laid_internal_strconv_uint64pow10), ("unicode/utf8.acceptRanges", laid_unicode_utf8_acceptRanges), ("strconv.ErrRange", laid_strconv_ErrRange), ("strconv.ErrSyntax", laid_strconv_ErrSyntax), ("unicode/utf8.first", laid_unicode_utf8_first)] }
def ConsoleReadsSaid : Prop := consoleReadsRow.holds Tryd.pinned (OpenSpec.ofChange consoleReadsSpec)

/-- ITS FALSE NEIGHBOUR: 'it returns false'. Refute it at one input. -/
def consoleReadsWrong : ChangeSpec := { name := "consoleReads", fn := fun _ => fun
  | [d] => { results := [.lit (.bool false)], args := [d] }
  | _ => none }
def ConsoleReadsWrongFalsely : Prop := consoleReadsRow.holds Tryd.pinned (OpenSpec.ofChange consoleReadsWrong)

/-- 'reredoslaw.LinesReads': WHATEVER THE INPUT: true; the input reads as it did. -/
def linesReadsSpec : ChangeSpec := { name := "linesReads", fn := fun _ => fun
  | [d1, d2] => { results := [.lit (.bool true)], args := [d1, d2] }
  | _ => none }
def linesReadsRow : OpenClaim := { program := "ytobhipeiogljjaadoor", sum := "918c597e09320d45709c03ff40b1e272b17f5b19ab0ced3c72fd2aa0564fac07", func := "reredos/reredoslaw.LinesReads", spec := "linesReads", inPlace := ["internal/bytealg.IndexByteString", "internal/bytealg.IndexString", "internal/bytealg.CountString"], unfollowed := true, recurses := true, named := ["internal/bytealg.MaxLen", "reredos/lines.words", "unicode/utf8.first", "unicode/utf8.acceptRanges", "strconv.ErrSyntax", "strconv.ErrRange", "internal/strconv.uint64pow10", "math/bits.deBruijn32tab", "math/bits.deBruijn64tab", "reredos/lines.calls"], apart := false, laid := [("math/bits.deBruijn32tab", laid_math_bits_deBruijn32tab), ("math/bits.deBruijn64tab", laid_math_bits_deBruijn64tab), ("internal/strconv.uint64pow10", laid_internal_strconv_uint64pow10), ("unicode/utf8.acceptRanges", laid_unicode_utf8_acceptRanges), ("strconv.ErrRange", laid_strconv_ErrRange), ("strconv.ErrSyntax", laid_strconv_ErrSyntax), ("reredos/lines.words", laid_reredos_lines_words), ("reredos/lines.calls", laid_reredos_lines_calls), ("unicode/utf8.first", laid_unicode_utf8_first)] }
def LinesReadsSaid : Prop := linesReadsRow.holds Tryd.pinned (OpenSpec.ofChange linesReadsSpec)

/-- ITS FALSE NEIGHBOUR: 'it returns false'. Refute it at one input. -/
def linesReadsWrong : ChangeSpec := { name := "linesReads", fn := fun _ => fun
  | [d1, d2] => { results := [.lit (.bool false)], args := [d1, d2] }
  | _ => none }
def LinesReadsWrongFalsely : Prop := linesReadsRow.holds Tryd.pinned (OpenSpec.ofChange linesReadsWrong)

/- THE SECOND FORM. 'bulk': how many values and letters a reading holds, each counted each time it is reached (what is shared counts as often as it is met; a slice's spare places count too). A statement '..UptoSaid' is the law's where the arguments, and the package variables that the reading takes, are together of bulk at most 1048576: NARROWER than '..Said'. Prove '..Said' where nothing that the law and all that it calls make is longer than what came in: it says more and counts as full. Else prove '..UptoSaid'. A law counts once. -/
mutual
def uptoBulk {H : Type} : DataW H → Nat
  | .lit (.string bytes) => bytes.length + 1
  | .lit _ => 1
  | .nil => 1
  | .ptr d => uptoBulk d + 1
  | .slice elems spare => uptoBulkAll elems + uptoBulkAll spare + 1
  | .agg parts => uptoBulkAll parts + 1
  | .iface _ d => uptoBulk d + 1
  | .map entries => uptoBulkEntries entries + 1
  | .held _ => 1
def uptoBulkAll {H : Type} : List (DataW H) → Nat
  | [] => 0
  | d :: r => uptoBulk d + uptoBulkAll r
def uptoBulkEntries {H : Type} : List (Lit × DataW H) → Nat
  | [] => 0
  | x :: r => uptoBulkEntry x + uptoBulkEntries r
def uptoBulkEntry {H : Type} : Lit × DataW H → Nat
  | (.string bytes, d) => bytes.length + uptoBulk d + 1
  | (_, d) => uptoBulk d + 1
 end
def uptoSmall : (H : Type) → List (DataW H) → Bool := fun _ ds => decide (uptoBulkAll ds ≤ 1048576)
def OpenSpec.upto (s : _root_.Go.ChangeSpec) : _root_.Go.OpenSpec := { _root_.Go.OpenSpec.ofChange s with cond := some uptoSmall }

/-- 'reredoslaw.WireMessages', WHERE WHAT IT READS IS OF BULK AT MOST 1048576: true; the input reads as it did. -/
def wireMessagesUptoRow : OpenClaim := { program := "ytobhipeiogljjaadoor", sum := "918c597e09320d45709c03ff40b1e272b17f5b19ab0ced3c72fd2aa0564fac07", func := "reredos/reredoslaw.WireMessages", spec := "wireMessages", named := ["reredos/wire.messages"], apart := false, laid := [("reredos/wire.messages", laid_reredos_wire_messages)], narrowed := true }
def WireMessagesUptoSaid : Prop := wireMessagesUptoRow.holds Tryd.pinned (OpenSpec.upto wireMessagesSpec)

/-- 'reredoslaw.WireRecords', WHERE WHAT IT READS IS OF BULK AT MOST 1048576: true; the input reads as it did. -/
def wireRecordsUptoRow : OpenClaim := { program := "ytobhipeiogljjaadoor", sum := "918c597e09320d45709c03ff40b1e272b17f5b19ab0ced3c72fd2aa0564fac07", func := "reredos/reredoslaw.WireRecords", spec := "wireRecords", named := ["reredos/wire.records"], apart := false, laid := [("reredos/wire.records", laid_reredos_wire_records)], narrowed := true }
def WireRecordsUptoSaid : Prop := wireRecordsUptoRow.holds Tryd.pinned (OpenSpec.upto wireRecordsSpec)

/-- 'reredoslaw.NetChecks', WHERE WHAT IT READS IS OF BULK AT MOST 1048576: true; the input reads as it did. -/
def netChecksUptoRow : OpenClaim := { program := "ytobhipeiogljjaadoor", sum := "918c597e09320d45709c03ff40b1e272b17f5b19ab0ced3c72fd2aa0564fac07", func := "reredos/reredoslaw.NetChecks", spec := "netChecks", named := ["reredos/wire.messages"], apart := false, laid := [("reredos/wire.messages", laid_reredos_wire_messages)], narrowed := true }
def NetChecksUptoSaid : Prop := netChecksUptoRow.holds Tryd.pinned (OpenSpec.upto netChecksSpec)

/-- 'reredoslaw.WireWrites', WHERE WHAT IT READS IS OF BULK AT MOST 1048576: true; the input reads as it did. -/
def wireWritesUptoRow : OpenClaim := { program := "ytobhipeiogljjaadoor", sum := "918c597e09320d45709c03ff40b1e272b17f5b19ab0ced3c72fd2aa0564fac07", func := "reredos/reredoslaw.WireWrites", spec := "wireWrites", named := ["reredos/wire.records"], apart := false, laid := [("reredos/wire.records", laid_reredos_wire_records)], narrowed := true }
def WireWritesUptoSaid : Prop := wireWritesUptoRow.holds Tryd.pinned (OpenSpec.upto wireWritesSpec)

/-- 'reredoslaw.WireSays', WHERE WHAT IT READS IS OF BULK AT MOST 1048576: true; the input reads as it did. -/
def wireSaysUptoRow : OpenClaim := { program := "ytobhipeiogljjaadoor", sum := "918c597e09320d45709c03ff40b1e272b17f5b19ab0ced3c72fd2aa0564fac07", func := "reredos/reredoslaw.WireSays", spec := "wireSays", named := ["reredos/wire.messages"], apart := false, laid := [("reredos/wire.messages", laid_reredos_wire_messages)], narrowed := true }
def WireSaysUptoSaid : Prop := wireSaysUptoRow.holds Tryd.pinned (OpenSpec.upto wireSaysSpec)

/-- 'reredoslaw.NetSends', WHERE WHAT IT READS IS OF BULK AT MOST 1048576: true; the input reads as it did. -/
def netSendsUptoRow : OpenClaim := { program := "ytobhipeiogljjaadoor", sum := "918c597e09320d45709c03ff40b1e272b17f5b19ab0ced3c72fd2aa0564fac07", func := "reredos/reredoslaw.NetSends", spec := "netSends", named := ["reredos/wire.messages"], apart := false, laid := [("reredos/wire.messages", laid_reredos_wire_messages)], narrowed := true }
def NetSendsUptoSaid : Prop := netSendsUptoRow.holds Tryd.pinned (OpenSpec.upto netSendsSpec)

/-- 'reredoslaw.NetTakes', WHERE WHAT IT READS IS OF BULK AT MOST 1048576: true; the input reads as it did. -/
def netTakesUptoRow : OpenClaim := { program := "ytobhipeiogljjaadoor", sum := "918c597e09320d45709c03ff40b1e272b17f5b19ab0ced3c72fd2aa0564fac07", func := "reredos/reredoslaw.NetTakes", spec := "netTakes", named := ["reredos/wire.messages"], apart := false, laid := [("reredos/wire.messages", laid_reredos_wire_messages)], narrowed := true }
def NetTakesUptoSaid : Prop := netTakesUptoRow.holds Tryd.pinned (OpenSpec.upto netTakesSpec)

/-- 'reredoslaw.WireReads', WHERE WHAT IT READS IS OF BULK AT MOST 1048576: true; the input reads as it did. -/
def wireReadsUptoRow : OpenClaim := { program := "ytobhipeiogljjaadoor", sum := "918c597e09320d45709c03ff40b1e272b17f5b19ab0ced3c72fd2aa0564fac07", func := "reredos/reredoslaw.WireReads", spec := "wireReads", named := ["reredos/wire.records"], apart := false, laid := [("reredos/wire.records", laid_reredos_wire_records)], narrowed := true }
def WireReadsUptoSaid : Prop := wireReadsUptoRow.holds Tryd.pinned (OpenSpec.upto wireReadsSpec)

/-- 'reredoslaw.WireHears', WHERE WHAT IT READS IS OF BULK AT MOST 1048576: true; the input reads as it did. -/
def wireHearsUptoRow : OpenClaim := { program := "ytobhipeiogljjaadoor", sum := "918c597e09320d45709c03ff40b1e272b17f5b19ab0ced3c72fd2aa0564fac07", func := "reredos/reredoslaw.WireHears", spec := "wireHears", named := ["reredos/wire.messages"], apart := false, laid := [("reredos/wire.messages", laid_reredos_wire_messages)], narrowed := true }
def WireHearsUptoSaid : Prop := wireHearsUptoRow.holds Tryd.pinned (OpenSpec.upto wireHearsSpec)

/-- 'reredoslaw.TapeAppends', WHERE WHAT IT READS IS OF BULK AT MOST 1048576: true; the input reads as it did. -/
def tapeAppendsUptoRow : OpenClaim := { program := "ytobhipeiogljjaadoor", sum := "918c597e09320d45709c03ff40b1e272b17f5b19ab0ced3c72fd2aa0564fac07", func := "reredos/reredoslaw.TapeAppends", spec := "tapeAppends", named := ["reredos/wire.records"], apart := false, laid := [("reredos/wire.records", laid_reredos_wire_records)], narrowed := true }
def TapeAppendsUptoSaid : Prop := tapeAppendsUptoRow.holds Tryd.pinned (OpenSpec.upto tapeAppendsSpec)

/-- 'reredoslaw.TapeRecovers', WHERE WHAT IT READS IS OF BULK AT MOST 1048576: true; the input reads as it did. -/
def tapeRecoversUptoRow : OpenClaim := { program := "ytobhipeiogljjaadoor", sum := "918c597e09320d45709c03ff40b1e272b17f5b19ab0ced3c72fd2aa0564fac07", func := "reredos/reredoslaw.TapeRecovers", spec := "tapeRecovers", named := ["reredos/wire.records"], apart := false, laid := [("reredos/wire.records", laid_reredos_wire_records)], narrowed := true }
def TapeRecoversUptoSaid : Prop := tapeRecoversUptoRow.holds Tryd.pinned (OpenSpec.upto tapeRecoversSpec)

/-- 'reredoslaw.LinesShows', WHERE WHAT IT READS IS OF BULK AT MOST 1048576: true; the input reads as it did. -/
def linesShowsUptoRow : OpenClaim := { program := "ytobhipeiogljjaadoor", sum := "918c597e09320d45709c03ff40b1e272b17f5b19ab0ced3c72fd2aa0564fac07", func := "reredos/reredoslaw.LinesShows", spec := "linesShows", inPlace := ["internal/abi.NoEscape"], unfollowed := true, recurses := true, named := ["reredos/lines.words", "internal/strconv.uint64pow10", "math/bits.deBruijn32tab", "math/bits.deBruijn64tab", "reredos/lines.calls"], apart := false, laid := [("math/bits.deBruijn32tab", laid_math_bits_deBruijn32tab), ("math/bits.deBruijn64tab", laid_math_bits_deBruijn64tab), ("internal/strconv.uint64pow10", laid_internal_strconv_uint64pow10), ("reredos/lines.words", laid_reredos_lines_words), ("reredos/lines.calls", laid_reredos_lines_calls)], narrowed := true }
def LinesShowsUptoSaid : Prop := linesShowsUptoRow.holds Tryd.pinned (OpenSpec.upto linesShowsSpec)

/-- 'reredoslaw.ConsoleShows', WHERE WHAT IT READS IS OF BULK AT MOST 1048576: true; the input reads as it did. -/
def consoleShowsUptoRow : OpenClaim := { program := "ytobhipeiogljjaadoor", sum := "918c597e09320d45709c03ff40b1e272b17f5b19ab0ced3c72fd2aa0564fac07", func := "reredos/reredoslaw.ConsoleShows", spec := "consoleShows", inPlace := ["internal/abi.NoEscape"], unfollowed := true, recurses := true, named := ["internal/strconv.uint64pow10", "math/bits.deBruijn32tab", "math/bits.deBruijn64tab"], apart := false, laid := [("math/bits.deBruijn32tab", laid_math_bits_deBruijn32tab), ("math/bits.deBruijn64tab", laid_math_bits_deBruijn64tab), ("internal/strconv.uint64pow10", laid_internal_strconv_uint64pow10)], narrowed := true }
def ConsoleShowsUptoSaid : Prop := consoleShowsUptoRow.holds Tryd.pinned (OpenSpec.upto consoleShowsSpec)

/-- 'reredoslaw.RecoverRebuilds', WHERE WHAT IT READS IS OF BULK AT MOST 1048576: true; the input reads as it did. -/
def recoverRebuildsUptoRow : OpenClaim := { program := "ytobhipeiogljjaadoor", sum := "918c597e09320d45709c03ff40b1e272b17f5b19ab0ced3c72fd2aa0564fac07", func := "reredos/reredoslaw.RecoverRebuilds", spec := "recoverRebuilds", inPlace := ["slices.overlaps[reredos/api.Item]", "slices.overlaps[reredos/api.Job]"], unfollowed := true, recurses := true, named := ["reredos/wire.records"], apart := false, laid := [("reredos/wire.records", laid_reredos_wire_records)], narrowed := true }
def RecoverRebuildsUptoSaid : Prop := recoverRebuildsUptoRow.holds Tryd.pinned (OpenSpec.upto recoverRebuildsSpec)

/-- 'reredoslaw.PartHears', WHERE WHAT IT READS IS OF BULK AT MOST 1048576: true; the input reads as it did. -/
def partHearsUptoRow : OpenClaim := { program := "ytobhipeiogljjaadoor", sum := "918c597e09320d45709c03ff40b1e272b17f5b19ab0ced3c72fd2aa0564fac07", func := "reredos/reredoslaw.PartHears", spec := "partHears", inPlace := ["slices.overlaps[reredos/api.Item]"], unfollowed := true, recurses := true, named := ["reredos/wire.messages"], apart := false, laid := [("reredos/wire.messages", laid_reredos_wire_messages)], narrowed := true }
def PartHearsUptoSaid : Prop := partHearsUptoRow.holds Tryd.pinned (OpenSpec.upto partHearsSpec)

/-- 'reredoslaw.CoordHears', WHERE WHAT IT READS IS OF BULK AT MOST 1048576: true; the input reads as it did. -/
def coordHearsUptoRow : OpenClaim := { program := "ytobhipeiogljjaadoor", sum := "918c597e09320d45709c03ff40b1e272b17f5b19ab0ced3c72fd2aa0564fac07", func := "reredos/reredoslaw.CoordHears", spec := "coordHears", unfollowed := true, recurses := true, named := ["reredos/wire.messages"], apart := false, laid := [("reredos/wire.messages", laid_reredos_wire_messages)], narrowed := true }
def CoordHearsUptoSaid : Prop := coordHearsUptoRow.holds Tryd.pinned (OpenSpec.upto coordHearsSpec)

/-- 'reredoslaw.ConsoleReads', WHERE WHAT IT READS IS OF BULK AT MOST 1048576: true; the input reads as it did. -/
def consoleReadsUptoRow : OpenClaim := { program := "ytobhipeiogljjaadoor", sum := "918c597e09320d45709c03ff40b1e272b17f5b19ab0ced3c72fd2aa0564fac07", func := "reredos/reredoslaw.ConsoleReads", spec := "consoleReads", inPlace := ["internal/bytealg.CountString", "internal/bytealg.IndexByteString", "internal/bytealg.IndexString"], recurses := true, named := ["unicode/utf8.first", "unicode/utf8.acceptRanges", "internal/bytealg.MaxLen", "strconv.ErrSyntax", "strconv.ErrRange", "internal/strconv.uint64pow10", "math/bits.deBruijn32tab", "math/bits.deBruijn64tab"], apart := false, laid := [("math/bits.deBruijn32tab", laid_math_bits_deBruijn32tab), ("math/bits.deBruijn64tab", laid_math_bits_deBruijn64tab), ("internal/strconv.uint64pow10", laid_internal_strconv_uint64pow10), ("unicode/utf8.acceptRanges", laid_unicode_utf8_acceptRanges), ("strconv.ErrRange", laid_strconv_ErrRange), ("strconv.ErrSyntax", laid_strconv_ErrSyntax), ("unicode/utf8.first", laid_unicode_utf8_first)], narrowed := true }
def ConsoleReadsUptoSaid : Prop := consoleReadsUptoRow.holds Tryd.pinned (OpenSpec.upto consoleReadsSpec)

/-- 'reredoslaw.LinesReads', WHERE WHAT IT READS IS OF BULK AT MOST 1048576: true; the input reads as it did. -/
def linesReadsUptoRow : OpenClaim := { program := "ytobhipeiogljjaadoor", sum := "918c597e09320d45709c03ff40b1e272b17f5b19ab0ced3c72fd2aa0564fac07", func := "reredos/reredoslaw.LinesReads", spec := "linesReads", inPlace := ["internal/bytealg.IndexByteString", "internal/bytealg.IndexString", "internal/bytealg.CountString"], unfollowed := true, recurses := true, named := ["internal/bytealg.MaxLen", "reredos/lines.words", "unicode/utf8.first", "unicode/utf8.acceptRanges", "strconv.ErrSyntax", "strconv.ErrRange", "internal/strconv.uint64pow10", "math/bits.deBruijn32tab", "math/bits.deBruijn64tab", "reredos/lines.calls"], apart := false, laid := [("math/bits.deBruijn32tab", laid_math_bits_deBruijn32tab), ("math/bits.deBruijn64tab", laid_math_bits_deBruijn64tab), ("internal/strconv.uint64pow10", laid_internal_strconv_uint64pow10), ("unicode/utf8.acceptRanges", laid_unicode_utf8_acceptRanges), ("strconv.ErrRange", laid_strconv_ErrRange), ("strconv.ErrSyntax", laid_strconv_ErrSyntax), ("reredos/lines.words", laid_reredos_lines_words), ("reredos/lines.calls", laid_reredos_lines_calls), ("unicode/utf8.first", laid_unicode_utf8_first)], narrowed := true }
def LinesReadsUptoSaid : Prop := linesReadsUptoRow.holds Tryd.pinned (OpenSpec.upto linesReadsSpec)

end Rows
end Go.Proofs.YtobhipeiogljjaaDoor
