/- Closed facts of the whole program, each a theorem of its own (together in one declaration they pass the memory's lid). -/
import Derived.Test.YtkhnakdmkhidbaaDoorFrameD
namespace Go.Proofs.YtkhnakdmkhidbaaDoor
open Go.RowKit Go.ChangeShapes Go.WideShapes Go.ChangeAt

theorem and_b {a b : Bool} (h : a = true) (h' : b = true) : (a && b) = true := by rw [h, h']; rfl
theorem pg_mapsRowed : mapsRowed Tryd.prog = true := by kernel_rfl
theorem pg_stops : (Tryd.prog.stops == []) = true := by kernel_rfl
theorem pg_stopKnobs : (Tryd.prog.stopKnobs == []) = true := by kernel_rfl
theorem pg_plainKeys : (Rows.recoverRebuildsRow.plainKeys == Tryd.prog.plainKeys) = true := by kernel_rfl
theorem pg_stopsHeard : Tryd.prog.stopsHeard = true := by kernel_rfl
theorem pg_mayEnter : Tryd.prog.mayEnter = true := by kernel_rfl
theorem pg_lifted : (Rows.recoverRebuildsRow.lifted == Tryd.prog.liftsFinal) = true := by kernel_rfl
theorem pg_make : (Tryd.prog.make == some Rows.recoverRebuildsRow.make) = true := by kernel_rfl
theorem pg_main : Tryd.pinned.checked.prog.mainIs = some ((true, "275b06af70fe9060d3de576ea72426aadc28b0b5d31fd7ba2ae8cba6391c4fd3").1, (true, "275b06af70fe9060d3de576ea72426aadc28b0b5d31fd7ba2ae8cba6391c4fd3").2.toList) := by kernel_rfl
theorem pg_looks : false = Tryd.pinned.checked.prog.looks [] := by kernel_rfl

end Go.Proofs.YtkhnakdmkhidbaaDoor
