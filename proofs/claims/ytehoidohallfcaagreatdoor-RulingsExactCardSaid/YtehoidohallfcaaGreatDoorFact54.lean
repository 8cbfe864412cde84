/- Closed facts of the program, whatever the row. -/
import Derived.Test.YtehoidohallfcaaGreatDoorRowX
import Derived.JoinedOf
namespace Go.Proofs.YtehoidohallfcaaGreatDoor
open Go.ChangeShapes Go.WideShapes Go.ChangeAt Go.RowKit Go.Deep
theorem f_maps : mapsRowed Tryz.prog = true := by kernel_rfl
theorem f_stops : (Tryz.prog.stops == []) = true := by kernel_rfl
theorem f_knobs : (Tryz.prog.stopKnobs == []) = true := by kernel_rfl
theorem f_plain : (false == Tryz.prog.plainKeys) = true := by kernel_rfl
theorem f_heard : Tryz.prog.stopsHeard = true := by kernel_rfl
theorem f_enter : Tryz.prog.mayEnter = true := by kernel_rfl
theorem f_lifts : (false == Tryz.prog.liftsFinal) = true := by kernel_rfl
theorem f_make : (Tryz.prog.make == some Make.cut) = true := by kernel_rfl
end Go.Proofs.YtehoidohallfcaaGreatDoor

