/- Closed facts of the whole program, each a theorem of its own (together in one declaration they pass the memory's lid). -/
import Derived.Test.YtgocemdodabgkaaDoorFrameD
namespace Go.Proofs.YtgocemdodabgkaaDoor
open Go.RowKit Go.ChangeShapes Go.WideShapes Go.ChangeAt

theorem and_b {a b : Bool} (h : a = true) (h' : b = true) : (a && b) = true := by rw [h, h']; rfl
theorem pg_mapsRowed : mapsRowed Tryd.prog = true := by kernel_rfl
theorem pg_stops : (Tryd.prog.stops == []) = true := by kernel_rfl
theorem pg_stopKnobs : (Tryd.prog.stopKnobs == []) = true := by kernel_rfl
theorem pg_plainKeys : (Rows.netTakesRow.plainKeys == Tryd.prog.plainKeys) = true := by kernel_rfl
theorem pg_stopsHeard : Tryd.prog.stopsHeard = true := by kernel_rfl
theorem pg_mayEnter : Tryd.prog.mayEnter = true := by kernel_rfl
theorem pg_lifted : (Rows.netTakesRow.lifted == Tryd.prog.liftsFinal) = true := by kernel_rfl
theorem pg_make : (Tryd.prog.make == some Rows.netTakesRow.make) = true := by kernel_rfl
theorem pg_main : Tryd.pinned.checked.prog.mainIs = some ((true, "aee27f360a8b1bf762edf0ca9c3a36bebd452c81c5f5560dcfc84c55e3dab00f").1, (true, "aee27f360a8b1bf762edf0ca9c3a36bebd452c81c5f5560dcfc84c55e3dab00f").2.toList) := by kernel_rfl
theorem pg_looks : false = Tryd.pinned.checked.prog.looks [] := by kernel_rfl

end Go.Proofs.YtgocemdodabgkaaDoor
