/- Closed facts of the whole program, each a theorem of its own (together in one declaration they pass the memory's lid). -/
import Derived.Test.YtedjlbcclhgfmaaDoorFrameD
namespace Go.Proofs.YtedjlbcclhgfmaaDoor
open Go.RowKit Go.ChangeShapes Go.WideShapes Go.ChangeAt

theorem and_b {a b : Bool} (h : a = true) (h' : b = true) : (a && b) = true := by rw [h, h']; rfl
theorem pg_mapsRowed : mapsRowed Tryd.prog = true := by kernel_rfl
theorem pg_stops : (Tryd.prog.stops == []) = true := by kernel_rfl
theorem pg_stopKnobs : (Tryd.prog.stopKnobs == []) = true := by kernel_rfl
theorem pg_plainKeys : (Rows.consoleReadsRow.plainKeys == Tryd.prog.plainKeys) = true := by kernel_rfl
theorem pg_stopsHeard : Tryd.prog.stopsHeard = true := by kernel_rfl
theorem pg_mayEnter : Tryd.prog.mayEnter = true := by kernel_rfl
theorem pg_lifted : (Rows.consoleReadsRow.lifted == Tryd.prog.liftsFinal) = true := by kernel_rfl
theorem pg_make : (Tryd.prog.make == some Rows.consoleReadsRow.make) = true := by kernel_rfl
theorem pg_main : Tryd.pinned.checked.prog.mainIs = some ((true, "5ad421cb08b26c948f2e77e7cdb4a2f0b17b646645aac497d2f1ceeb78a4a55f").1, (true, "5ad421cb08b26c948f2e77e7cdb4a2f0b17b646645aac497d2f1ceeb78a4a55f").2.toList) := by kernel_rfl
theorem pg_looks : true = Tryd.pinned.checked.prog.looks [] := by kernel_rfl

end Go.Proofs.YtedjlbcclhgfmaaDoor
