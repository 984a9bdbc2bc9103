/- Closed facts of the whole program, each a theorem of its own (together in one declaration they pass the memory's lid). -/
import Derived.Test.YtkimjjndbcbiaaaDoorFrameD
namespace Go.Proofs.YtkimjjndbcbiaaaDoor
open Go.RowKit Go.ChangeShapes Go.WideShapes Go.ChangeAt

theorem and_b {a b : Bool} (h : a = true) (h' : b = true) : (a && b) = true := by rw [h, h']; rfl
theorem pg_mapsRowed : mapsRowed Tryd.prog = true := by kernel_rfl
theorem pg_stops : (Tryd.prog.stops == []) = true := by kernel_rfl
theorem pg_stopKnobs : (Tryd.prog.stopKnobs == []) = true := by kernel_rfl
theorem pg_plainKeys : (Rows.netChecksRow.plainKeys == Tryd.prog.plainKeys) = true := by kernel_rfl
theorem pg_stopsHeard : Tryd.prog.stopsHeard = true := by kernel_rfl
theorem pg_mayEnter : Tryd.prog.mayEnter = true := by kernel_rfl
theorem pg_lifted : (Rows.netChecksRow.lifted == Tryd.prog.liftsFinal) = true := by kernel_rfl
theorem pg_make : (Tryd.prog.make == some Rows.netChecksRow.make) = true := by kernel_rfl
theorem pg_main : Tryd.pinned.checked.prog.mainIs = some ((true, "a973402e2981f671317c843a55223308f4e2caa88084239a870d3e441902b56b").1, (true, "a973402e2981f671317c843a55223308f4e2caa88084239a870d3e441902b56b").2.toList) := by kernel_rfl
theorem pg_looks : false = Tryd.pinned.checked.prog.looks [] := by kernel_rfl

end Go.Proofs.YtkimjjndbcbiaaaDoor
