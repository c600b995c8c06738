/- Closed facts on the program's main package, which the cards ask for. No condition. -/
import Derived.Test.YtiehfpkcaoeieaaGreatDoorRows
import Derived.KernelRfl
import Derived.SevenTiedAt
set_option linter.unusedVariables false
set_option linter.unusedSimpArgs false
namespace Go.Proofs.YtiehfpkcaoeieaaGreatDoor
open Go
theorem cl_looks : true = Tryz.pinned.checked.prog.looks [] := by kernel_rfl
theorem cl_main : Tryz.pinned.checked.prog.mainIs = some ((true, "e56d594031d9c76870206d4f309e6103e459c4f934f1abaf0fce97faffa94db1").1, (true, "e56d594031d9c76870206d4f309e6103e459c4f934f1abaf0fce97faffa94db1").2.toList) := by kernel_rfl
end Go.Proofs.YtiehfpkcaoeieaaGreatDoor
