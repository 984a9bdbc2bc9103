/- Closed facts of the whole program, each a theorem of its own (together in one declaration they pass the memory's lid). -/
import Derived.Test.YtnkcmkegjckncaaDoorFrameD
namespace Go.Proofs.YtnkcmkegjckncaaDoor
open Go.RowKit Go.ChangeShapes Go.WideShapes Go.ChangeAt

theorem and_b {a b : Bool} (h : a = true) (h' : b = true) : (a && b) = true := by rw [h, h']; rfl
theorem pg_mapsRowed : mapsRowed Tryd.prog = true := by kernel_rfl
theorem pg_stops : (Tryd.prog.stops == []) = true := by kernel_rfl
theorem pg_stopKnobs : (Tryd.prog.stopKnobs == []) = true := by kernel_rfl
theorem pg_plainKeys : (Rows.coordHearsRow.plainKeys == Tryd.prog.plainKeys) = true := by kernel_rfl
theorem pg_stopsHeard : Tryd.prog.stopsHeard = true := by kernel_rfl
theorem pg_mayEnter : Tryd.prog.mayEnter = true := by kernel_rfl
theorem pg_lifted : (Rows.coordHearsRow.lifted == Tryd.prog.liftsFinal) = true := by kernel_rfl
theorem pg_make : (Tryd.prog.make == some Rows.coordHearsRow.make) = true := by kernel_rfl
theorem pg_main : Tryd.pinned.checked.prog.mainIs = some ((true, "9a2c9ebb2c41da47852883c621fa4e07e65d9e1def1b291d0a301d6c7367b86e").1, (true, "9a2c9ebb2c41da47852883c621fa4e07e65d9e1def1b291d0a301d6c7367b86e").2.toList) := by kernel_rfl
theorem pg_looks : false = Tryd.pinned.checked.prog.looks [] := by kernel_rfl

end Go.Proofs.YtnkcmkegjckncaaDoor
