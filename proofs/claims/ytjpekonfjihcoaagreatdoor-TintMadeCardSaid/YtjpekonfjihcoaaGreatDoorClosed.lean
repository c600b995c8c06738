/- Closed facts on the program alone, which the rows' wrap asks for. No condition. -/
import Derived.JoinedOf
import Derived.KernelRfl
import Derived.Test.YtjpekonfjihcoaaGreatDoorRows
namespace Go.TintM
end Go.TintM
set_option maxRecDepth 100000
set_option maxHeartbeats 64000000
set_option linter.unusedVariables false
set_option linter.unusedSimpArgs false
namespace Go.Proofs.YtjpekonfjihcoaaGreatDoor
open Go
theorem cl_may : Tryz.prog.mayEnter = true := by kernel_rfl
theorem cl_make : (Tryz.prog.make == some Rows.tintFirstsRow.make) = true := by kernel_rfl
theorem cl_lifts : (Rows.tintFirstsRow.lifted == Tryz.prog.liftsFinal) = true := by kernel_rfl
theorem cl_laid : laidOutB Tryz.prog = true := by kernel_rfl
theorem cl_maps : mapsRowed Tryz.prog = true := by kernel_rfl
theorem cl_stops : (Tryz.prog.stops == []) = true := by kernel_rfl
theorem cl_knobs : (Tryz.prog.stopKnobs == []) = true := by kernel_rfl
theorem cl_heard : Tryz.prog.stopsHeard = true := by kernel_rfl
theorem cl_plain : (Rows.tintFirstsRow.plainKeys == Tryz.prog.plainKeys) = true := by kernel_rfl
end Go.Proofs.YtjpekonfjihcoaaGreatDoor
