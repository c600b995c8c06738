/- Closed facts on the program's main package, which the cards ask for. No condition. -/
import Derived.KernelRfl
import Derived.SevenTiedAt
import Derived.Test.YtjpekonfjihcoaaGreatDoorRows
namespace Go.TintM
end Go.TintM
set_option maxRecDepth 100000
set_option maxHeartbeats 64000000
set_option linter.unusedVariables false
set_option linter.unusedSimpArgs false
namespace Go.Proofs.YtjpekonfjihcoaaGreatDoor
open Go
theorem cl_looks : true = Tryz.pinned.checked.prog.looks [] := by kernel_rfl
theorem cl_main : Tryz.pinned.checked.prog.mainIs = some ((true, "e32e88918bb9156dc879f76e0c37224603ef7b372f2d50b7754a6446120e31cd").1, (true, "e32e88918bb9156dc879f76e0c37224603ef7b372f2d50b7754a6446120e31cd").2.toList) := by kernel_rfl
end Go.Proofs.YtjpekonfjihcoaaGreatDoor
