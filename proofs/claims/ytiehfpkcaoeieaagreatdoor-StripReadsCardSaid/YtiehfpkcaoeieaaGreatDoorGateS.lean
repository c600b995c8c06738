/- The door of a string: an argument's reading opened into its bytes. No condition. -/
import Derived.Test.YtiehfpkcaoeieaaGreatDoorGate
import Derived.Test.YtiehfpkcaoeieaaGreatDoorM10
import Derived.ChangeMaps5
set_option linter.unusedVariables false
set_option linter.unusedSimpArgs false
namespace Go.Proofs.YtiehfpkcaoeieaaGreatDoor
open Go.ChangeShapes Go.WideShapes Go.ChangeAt Go.RowKit Go.My Go.Deep

set_option maxRecDepth 100000 in
theorem string_open {H : Type} {enc : TypeId × Value → H} {W : World} {v : Value} {d : DataW H} {p : List MemPlace} (h : DataW.Trod enc Tryz.prog W 0 (fun _ => true) true 9 v d p) (hval : Value.okWide Tryz.prog W .any 0 9 v) : ∃ l : List UInt8, v = .string (bs l) ∧ l.length ≤ 9223372036854775807 := by
  obtain ⟨s, rfl, _, _, hs⟩ := Go.ChangeMaps.open_string Tryz.underlying9 hval h
  have e : s.data.toList.length = s.size := Array.length_toList
  exact ⟨s.data.toList, rfl, by rw [e]; unfold maxLen at hs; omega⟩

end Go.Proofs.YtiehfpkcaoeieaaGreatDoor
